/-
  A part of the proof: contracts of functions.
-/
import Derived.Test.YtkpbdjpekjdhcaaGreatDoorXBG
import Derived.Test.YtkpbdjpekjdhcaaGreatDoorXBK
import Derived.Test.YtkpbdjpekjdhcaaGreatDoorXAF
set_option linter.unusedSectionVars false
set_option linter.unusedVariables false
set_option linter.unusedSimpArgs false
set_option maxRecDepth 100000
namespace Go.AM
open Go Go.Proofs
variable [Keep]
attribute [local irreducible] W WO WO1 WD WQ WT thenQ blockQ endR isRet retK Cl ClR
open Go.TX (Rm Fa Ha Hs mapO mapO_len)
attribute [local irreducible] roundQ RdR
theorem pth_blt {h : Heap} {a : AV} {p : List Int} (b : Blt h a 1 (intsE p)) (hm : p.length <= maxL) : pthV h a = some p := by
 rcases b with ⟨rfl, e⟩ | ⟨id, rfl, h1, h2, h3⟩
 ·have : p = [] := by
   have := congrArg List.length e
   rw [intsE_len] at this
   exact List.length_eq_zero_iff.1 this
  subst this
  rfl
 ·have hs := ints_sl p hm
  have hvs : slN (intsE p) = .vslice (intsE p) := by
   cases hq : intsE p with
   | nil => exact absurd hq h3
   | cons a r => rfl
  rw [hvs] at hs
  simp only [pthV, h1, List.drop_zero, Nat.zero_add, Nat.le_refl, and_self, if_true]
  rw [List.take_of_length_le (Nat.le_refl _)]
  exact hs
attribute [local irreducible] houseB pathB airS failsH hasB allP orI bitI
end Go.AM
namespace Go.AM
open Go Go.Proofs
variable [Keep]
attribute [local irreducible] W WO WO1 WD WQ WT thenQ blockQ endR isRet retK Cl ClR
open Go.TX (Rm Fa Ha Hs)
theorem take_step : ∀ {l p : List Int} {k : Nat} {r s : Int}, p[k]? = some r -> l[k]? = some s -> takeP l (p.take (k + 1)) = (takeP l (p.take k)).set k (tkF s r) /\ (takeP l (p.take k))[k]? = some s
 | [], p, k, r, s, _, h => by simp at h
 | a :: l, [], k, r, s, h, _ => by simp at h
 | a :: l, b :: p, 0, r, s, h1, h2 => by
  simp only [List.getElem?_cons_zero, Option.some.injEq] at h1 h2
  subst h1 h2
  refine ⟨?_, rfl⟩
  rw [List.take_succ_cons, List.take_zero, takeP, List.take_zero]
  have : ∀ l : List Int, takeP l [] = l := fun l => by cases l <;> rfl
  rw [this, this]
  rfl
 | a :: l, b :: p, k + 1, r, s, h1, h2 => by
  simp only [List.getElem?_cons_succ] at h1 h2
  obtain ⟨e1, e2⟩ := take_step h1 h2
  rw [List.take_succ_cons, List.take_succ_cons, takeP, takeP, e1]
  exact ⟨rfl, e2⟩
theorem fits_drop {l p : List Int} {k : Nat} {r s : Int} (h1 : p[k]? = some r) (h2 : l[k]? = some s) : fitsP (l.drop k) (p.drop k) = (fitF s r && fitsP (l.drop (k + 1)) (p.drop (k + 1))) := by
 obtain ⟨a1, a2⟩ := List.getElem?_eq_some_iff.1 h1
 obtain ⟨b1, b2⟩ := List.getElem?_eq_some_iff.1 h2
 rw [List.drop_eq_getElem_cons a1, List.drop_eq_getElem_cons b1, a2, b2, fitsP]
theorem fits_at : ∀ {l p : List Int} {k : Nat} {r s : Int}, fitsP l p = true -> p[k]? = some r -> l[k]? = some s -> fitF s r = true
 | [], p, k, r, s, _, _, h => by simp at h
 | a :: l, [], k, r, s, _, h, _ => by simp at h
 | a :: l, b :: p, 0, r, s, hf, h1, h2 => by
  simp only [List.getElem?_cons_zero, Option.some.injEq] at h1 h2
  subst h1 h2
  rw [fitsP, Bool.and_eq_true] at hf
  exact hf.1
 | a :: l, b :: p, k + 1, r, s, hf, h1, h2 => by
  rw [fitsP, Bool.and_eq_true] at hf
  exact fits_at hf.2 (by simpa using h1) (by simpa using h2)
section
variable {c : Itr}
set_option maxHeartbeats 4000000 in
theorem C30 (h30 : c 30 = none) (h101 : c 101 = none) (a : AV) (g : List (List Int)) (ha : lisV a = some g) (hl : ∀ p ∈ g, ∀ pa, slV intC pa = some p -> True) (h : Heap) : Cl (dX c) 30 [a] h (.ret (.int .i64 ((costR (fun p => if 0 < busyL p then 1 else 0) g : Nat) : Int)) h none) := by
 refine ClR.cl ?_
 have la := lis_len ha
 have oa := lis_out ha
 have ma := lis_max ha
 have h9 := fun pa p (hp : slV intC pa = some p) h => C101 h101 pa p hp h
 have H9 := J1 h9
 have HA := J1 ha
 clear h9 ha hl
 have hcost : ∀ (g : List (List Int)) (p : List Int), costR (fun p => if 0 < busyL p then 1 else 0) (g ++ [p]) = costR (fun p => if 0 < busyL p then 1 else 0) g + (if 0 < busyL p then 1 else 0) := by
  intro g p
  induction g with
  | nil => simp [costR]
  | cons a g ih => rw [List.cons_append, costR, costR, ih]; omega
 have hle : ∀ g : List (List Int), costR (fun p => if 0 < busyL p then 1 else 0) g <= g.length := by
  intro g
  induction g with
  | nil => exact Nat.le_refl _
  | cons a g ih => rw [costR, List.length_cons]; split <;> omega
 have HC := J1 hcost
 have HLE := J1 hle
 clear hcost hle
 refine ClR.walk (c := _) h30 Tryz.func30 rfl (by kernel_rfl) rfl (fun e => by cases e) ?_
 try simp only [entryEnv, Nat.reduceAdd, List.nil_append, List.cons_append, emptyHp]
 repeat' (first | refine goS ?_ | (refine go2 ?_ ?_ <;> intro hh) | fail)
 refine W.loopH (g.length) [0] [] (fun k e lm => e.get 4 = some (.int .i64 ↑k) /\ e.get 3 = some (.int .i64 ((costR (fun p => if 0 < busyL p then 1 else 0) (g.take k) : Nat) : Int))) ?_ ?_
 ·skip
  refine ⟨?_, ?_⟩
  all_goals first | exact Z2 | (simp [go_sem, *]; done) | skip
  all_goals rfl
 intro k e lm hk0 hce hcl hinv
 simp only [keepE, and_true] at hce
 have c0 := hce
 clear hce
 simp only [go_sem, *, Nat.reduceBEq, Nat.reduceEqDiff, reduceIte] at c0
 clear hcl
 obtain ⟨h4, h3⟩ := hinv
 by_cases hlt : k < g.length
 ·have hd0 : decide ((k : Int) < ((g.length : Nat) : Int)) = true := by first | (simpa using hlt; done) | (simp only [decide_eq_true_eq]; omega)
  have hv_0 := wrap_succ hlt ma
  obtain ⟨p, hp⟩ := get_some hlt
  obtain ⟨b, hb1, hb2⟩ := lis_idx HA.out hp
  have k101 := H9.out b p hb1
  have ob := sl_out hb1
  have hcb := (slV_is hb1).1.cells
  have htb := (slV_is hb1).1.tup
  have hnx := HC.out (g.take k) p
  rw [<- take_next hp] at hnx
  have hz1 := HLE.out (g.take k)
  rw [List.length_take] at hz1
  generalize costR (fun p => if 0 < busyL p then 1 else 0) (g.take k) = z at *
  have hw : IntKind.i64.wrap ((z : Int) + 1) = ((z + 1 : Nat) : Int) := by
   have := w64_small (n := (z : Int) + 1) (by omega) (by unfold maxL at ma; omega)
   unfold w64 at this
   rw [this]
   omega
  simp only [AV.cells] at hcb
  simp only [isTuple] at htb
  have HNX := J1 hnx
  have HLT0 := J1 hlt
  clear hp hb1 hnx hz1 hlt
  by_cases hbz : 0 < busyL p
  ·have d0 : decide (((busyL p : Nat) : Int) > 0) = true := by simp only [decide_eq_true_eq]; omega
   have HBZ := J1 hbz
   clear hbz
   generalize busyL p = bz at *
   repeat' (first | refine goS ?_ | (apply U6; exact Z1; exact Z1; (exact k101 _); simp only [pM, pN, rR, rP]) | (refine go2 ?_ ?_ <;> intro hh) | fail)
   all_goals refine contH_mk J9 J7 J8 ?_
   all_goals refine ⟨?_, ?_⟩
   all_goals first | exact Z2 | skip
   all_goals (rw [HNX.out, if_pos HBZ.out]; simp only [go_sem, *, Nat.reduceLT, Int.reduceEq, Int.reduceBEq, Int.reduceLE, Int.reduceLT, Nat.reduceAdd, Nat.reduceBEq, Nat.reduceEqDiff, reduceIte, Nat.reduceLeDiff, Nat.reduceMul, Nat.reduceSub, reduceCtorEq])
  ·have d0 : decide (((busyL p : Nat) : Int) > 0) = false := by simp only [decide_eq_false_iff_not]; omega
   have HBZ := J1 hbz
   clear hbz
   generalize busyL p = bz at *
   repeat' (first | refine goS ?_ | (apply U6; exact Z1; exact Z1; (exact k101 _); simp only [pM, pN, rR, rP]) | (refine go2 ?_ ?_ <;> intro hh) | fail)
   all_goals refine contH_mk J9 J7 J8 ?_
   all_goals refine ⟨?_, ?_⟩
   all_goals first | exact Z2 | skip
   all_goals (rw [HNX.out, if_neg HBZ.out]; simp only [go_sem, *, Nat.reduceLT, Int.reduceEq, Int.reduceBEq, Int.reduceLE, Int.reduceLT, Nat.reduceAdd, Nat.reduceBEq, Nat.reduceEqDiff, reduceIte, Nat.reduceLeDiff, Nat.reduceMul, Nat.reduceSub, reduceCtorEq, Nat.add_zero])
 ·have hd0 : decide ((k : Int) < ((g.length : Nat) : Int)) = false := by first | (simpa using hlt; done) | (simp only [decide_eq_false_iff_not]; omega)
  obtain rfl : k = g.length := by omega
  rw [List.take_length] at h3
  repeat' (first | refine goS ?_ | (refine go2 ?_ ?_ <;> intro hh) | fail)
  all_goals (simp only [resV_def (X := dX c) Tryz.func30, Tryz.results30]; first | exact J5 | refine J6 ?_)
  all_goals rfl
end
end Go.AM
namespace Go.AM
open Go
variable [Keep]
end Go.AM
