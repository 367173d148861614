/-
  A part of the proof: contracts of functions.
-/
import Derived.Test.YtkpbdjpekjdhcaaGreatDoorRBI
import Derived.Test.YtkpbdjpekjdhcaaGreatDoorRBC
set_option linter.unusedSectionVars false
set_option linter.unusedVariables false
set_option linter.unusedSimpArgs false
set_option maxRecDepth 100000
namespace Go.AM
open Go Go.Proofs
variable [Keep]
attribute [local irreducible] W WO WO1 WD WQ WT thenQ blockQ endR isRet retK Cl ClR
open Go.TX (Rm Fa Ha Hs mapO mapO_len)
def earB (x y : Fk) : Bool := if (x.what != y.what) = true then decide (x.what < y.what) else if (x.num != y.num) = true then decide (x.num < y.num) else decide (x.hour < y.hour)
theorem ear_iff {x y : Fk} : earB x y = true ↔ x.what < y.what ∨ (x.what = y.what ∧ (x.num < y.num ∨ (x.num = y.num ∧ x.hour < y.hour))) := by
 unfold earB
 split
 ·rename_i h
  have : x.what ≠ y.what := by simpa using h
  simp only [decide_eq_true_eq]
  omega
 ·rename_i h
  have : x.what = y.what := by simpa using h
  split
  ·rename_i h2
   have : x.num ≠ y.num := by simpa using h2
   simp only [decide_eq_true_eq]
   omega
  ·rename_i h2
   have : x.num = y.num := by simpa using h2
   simp only [decide_eq_true_eq]
   omega
def Ear (f g : Fl) : Prop := earB f.tell g.tell = true
theorem hourP_pw {p : List Fl} {mk : Int → Fl} (hp : p.Pairwise Ear) (hi : ∀ a b : Int, a < b → Ear (mk a) (mk b)) (hn : ∀ f ∈ p, ∀ i : Int, Ear f (mk i)) : ∀ j, (hourP p mk j).Pairwise Ear := by
 intro j
 induction j with
 | zero => unfold hourP; exact hp
 | succ j ih =>
  unfold hourP
  rw [List.pairwise_append]
  refine ⟨ih, by simp, fun a ha b hb => ?_⟩
  rw [List.mem_singleton] at hb
  subst hb
  rcases hourP_mem_iff.1 ha with h | ⟨i, h1, h2⟩
  ·exact hn _ h _
  ·rw [h2]; exact hi _ _ (by omega)
theorem fanP_pw (n : Nat) : ∀ a, (fanP n a).Pairwise Ear := by
 intro a
 induction a with
 | zero => unfold fanP; simp
 | succ a ih =>
  unfold fanP
  refine hourP_pw ih (fun x y h => ?_) (fun f h i => ?_) n
  ·unfold Ear; rw [ear_iff]; simp only [Fl.tell, true_and, false_and, or_false, false_or]; omega
  ·unfold Ear
   rw [ear_iff]
   rcases fanP_mem_iff.1 h with rfl | ⟨k, j, h1, h2, rfl⟩
   ·simp only [Fl.tell, true_and, false_and, or_false, false_or]; omega
   ·simp only [Fl.tell, true_and, false_and, or_false, false_or]; omega
theorem fails_pw (n a b : Nat) : (failP n a b).Pairwise Ear := by
 unfold failP
 induction b with
 | zero => unfold machP; exact fanP_pw n a
 | succ b ih =>
  unfold machP
  refine hourP_pw ih (fun x y h => ?_) (fun f h i => ?_) n
  ·unfold Ear; rw [ear_iff]; simp only [Fl.tell, true_and, false_and, or_false, false_or]; omega
  ·unfold Ear
   rw [ear_iff]
   rcases machP_mem_iff.1 h with h | ⟨k, j, h1, h2, rfl⟩
   ·rcases fanP_mem_iff.1 h with rfl | ⟨k, j, h1, h2, rfl⟩
    ·simp only [Fl.tell, true_and, false_and, or_false, false_or]; omega
    ·simp only [Fl.tell, true_and, false_and, or_false, false_or]; omega
   ·simp only [Fl.tell, true_and, false_and, or_false, false_or]; omega
theorem failsH_pw (m : Hs) : (failsH m).Pairwise Ear := by unfold failsH; exact fails_pw _ _ _
theorem dan1_some {m : Hs} {li : Int} {p : List Int} {f : Fl} (h : dan1 m li p = some f) : f ∈ failsH m ∧ li < brV (highG m f) p ∧ ∀ t ∈ failsH m, earB t.tell f.tell = true → brV (highG m t) p ≤ li := by
 unfold dan1 at h
 rw [List.find?_eq_some_iff_append] at h
 obtain ⟨h1, ls, bs, h2, h3⟩ := h
 have hpw := failsH_pw m
 rw [h2] at hpw ⊢
 refine ⟨by simp, by simpa using h1, fun t ht he => ?_⟩
 rcases List.mem_append.1 ht with h | h
 ·have := h3 t h
  simpa using this
 ·exfalso
  rcases List.mem_cons.1 h with rfl | h
  ·have := ear_iff.1 he; omega
  ·rw [List.pairwise_append] at hpw
   have h4 := (List.pairwise_cons.1 hpw.2.1).1 t h
   unfold Ear at h4
   have h5 := ear_iff.1 he
   have h6 := ear_iff.1 h4
   omega
theorem dan_some {m : Hs} {g : List (List Int)} {i : Nat} {f : Fl} : ∀ {n : Nat}, danL m g n = some (i, f) → i < n ∧ dan1 m (limAt m i) (g.getD i []) = some f ∧ ∀ k, k < i → dan1 m (limAt m k) (g.getD k []) = none
 | 0, h => by cases h
 | n + 1, h => by
  simp only [danL] at h
  cases h1 : danL m g n with
  | some x =>
   rw [h1] at h
   simp only [Option.some.injEq] at h
   rw [h] at h1
   obtain ⟨q1, q2, q3⟩ := dan_some h1
   exact ⟨by omega, q2, q3⟩
  | none =>
   rw [h1] at h
   simp only at h
   split at h
   ·rename_i f' hf
    cases h
    exact ⟨by omega, hf, fun k hk => dan_none.1 h1 k hk⟩
   ·cases h
theorem lost_law {m : Hs} (ho : HOk m) {g dg : List (List Int)} (hp : ∀ p ∈ g, pathB m p = true) {t : Fl} (ht : t ∈ failsH m) (hf : fitsB m dg = true) (hl : dg.length = m.rooms.length) (hr : ∀ x ∈ dg, (x.length : Int) = m.hours) {i : Nat} {p : List Int} (hi : g[i]? = some p) (h : dan1 m (limAt m i) p = none ∨ ∃ f, dan1 m (limAt m i) p = some f ∧ earB t.tell f.tell = true) : brV (runG m t dg) p ≤ limAt m i := by
 have hq := hp p (List.mem_of_getElem? hi)
 have h1 := brV_mono ho hq (runG_ok ho t hf hl) (high_ok ho t) (run_between ho t hf hl hr).2
 have h2 : brV (highG m t) p ≤ limAt m i := by
  rcases h with h | ⟨f, h, he⟩
  ·have := dan1_none.1 h
   have := (air_in (m := m) (p := p) ht).2
   omega
  ·exact (dan1_some h).2.2 t ht he
 omega
section
variable {c : Itr}
theorem C74 (h74 : c 74 = none) (x y : Fk) (h : Heap) : Cl (dX c) 74 [fkC.enc x, fkC.enc y] h (.ret (.bool (earB x y)) h none) := by
 refine ClR.cl ?_
 unfold earB
 simp only [fkC]
 cases e1 : (x.what != y.what) <;> cases e2 : (x.num != y.num)
 all_goals
  simp only [Bool.false_eq_true, if_false, if_true]
  refine ClR.walk (c := _) h74 Tryz.func74 rfl (by kernel_rfl) rfl (fun e => by cases e) ?_
  try simp only [entryEnv, Nat.reduceAdd, List.nil_append, List.cons_append, emptyHp]
  repeat' (first | refine goS ?_ | refine go2 (fun hh => ?_) (fun hh => ?_) | fail)
  all_goals (simp only [resV_def (X := dX c) Tryz.func74, Tryz.results74]; first | exact J5 | refine J6 ?_)
  all_goals rfl
end
end Go.AM
