/-
  A part of the proof: contracts of functions.
-/
import Derived.Test.YtkpbdjpekjdhcaaGreatDoorXAS
import Derived.Test.YtkpbdjpekjdhcaaGreatDoorXAR
set_option linter.unusedSectionVars false
set_option linter.unusedVariables false
set_option linter.unusedSimpArgs false
set_option maxRecDepth 100000
namespace Go.AM
open Go Go.Proofs
variable [Keep]
attribute [local irreducible] W WO WO1 WD WQ WT thenQ blockQ endR isRet retK Cl ClR
open Go.TX (Rm Fa Ha Hs)
attribute [local irreducible] failP fanP machP hourP madeF
def fksE (l : List Fl) : List AV := l.map fun f => fkC.enc f.tell
theorem fksE_app (l : List Fl) (f : Fl) : fksE (l ++ [f]) = fksE l ++ [fkC.enc f.tell] := by simp [fksE]
theorem fksE_len (l : List Fl) : (fksE l).length = l.length := by simp [fksE]
theorem hourP_len (p : List Fl) (mk : Int -> Fl) (j : Nat) : (hourP p mk j).length = p.length + j := by
 induction j with
 | zero => unfold hourP; rfl
 | succ j ih => unfold hourP; rw [List.length_append, ih]; rfl
theorem fanP_len (n k : Nat) : (fanP n k).length = 1 + k * n := by
 induction k with
 | zero => unfold fanP; simp
 | succ k ih => unfold fanP; rw [hourP_len, ih, Nat.succ_mul]; omega
theorem machP_len (n : Nat) (p : List Fl) (k : Nat) : (machP n p k).length = p.length + k * n := by
 induction k with
 | zero => unfold machP; simp
 | succ k ih => unfold machP; rw [hourP_len, ih, Nat.succ_mul]; omega
theorem fail_len (n a b : Nat) : (failP n a b).length = 1 + a * n + b * n := by unfold failP; rw [machP_len, fanP_len]
theorem fail_29 {n a b : Nat} (hn : n <= 4) (ha : a <= 4) (hb : b <= 3) : (failP n a b).length <= 29 := by
 have h1 : a * n <= 4 * 4 := Nat.mul_le_mul ha hn
 have h2 : b * n <= 3 * 4 := Nat.mul_le_mul hb hn
 rw [fail_len]; omega
def failsH (m : Hs) : List Fl := failP m.hours.toNat m.fans.length m.rooms.length
theorem fails_29 {m : Hs} (ho : HOk m) : (failsH m).length <= 29 := by
 obtain ⟨nn, h1, h2, h3, h4, h5⟩ := ho_parts ho
 have h6 := ho.rooms
 have h7 := ho.fans
 exact fail_29 (by omega) (by omega) (by omega)
theorem fails_1 (m : Hs) : 1 <= (failsH m).length := by unfold failsH; rw [fail_len]; omega
theorem fks_sl (l : List Fl) (h : l.length <= maxL) : slV fkC (slN (fksE l)) = some (l.map Fl.tell) := by
 have : fksE l = (l.map Fl.tell).map fkC.enc := by simp [fksE]
 rw [this]
 exact slV_slN (by simpa using h)
noncomputable def cR : Itr
 | 84 => some (pureFn sp84)
 | 85 => some (pureFn sp85)
 | _ => none
theorem cR_sound : Sound (dX cR) := dX_sound (fun f g h => by
 unfold cR at h
 split at h
 ·cases h; exact F84
 ·cases h; exact F85
 ·cases h)
theorem hcR : CxR cR := ⟨rfl, rfl, rfl, rfl, rfl, rfl, rfl, rfl⟩
def sp72 : List AV -> Option AV
 | [x] => match hsV x with
  | some m => if houseB m = true then some (slN (fksE (failsH m))) else none
  | none => none
 | _ => none
theorem fksE_pur (l : List Fl) : (slN (fksE l)).pur = true := (slN_is _).pur fun x hx => by
 unfold fksE at hx
 obtain ⟨f, _, rfl⟩ := List.mem_map.1 hx
 rfl
theorem p72 : ∀ args v, sp72 args = some v -> v.pur = true := by
 intro args v h
 unfold sp72 at h
 split at h
 ·split at h
  ·split at h
   ·cases h; exact fksE_pur _
   ·cases h
  ·cases h
 ·cases h
set_option maxHeartbeats 8000000 in
theorem F72 : IntrFn Tryz.prog 72 (pureFn sp72) := by
 refine pure_fn (X := dX cR) cR_sound p72 ?_
 intro args v h
 unfold sp72 at h
 split at h
 ·split at h
  ·rename_i m hm
   split at h
   ·rename_i hw
    have h := Option.some.inj h
    subst h
    obtain ⟨ra, fa, oa, ha, rfl, hA⟩ := hs_parts' hm
    have ho := house_ok hw
    obtain ⟨nn, hnn, hnt, hn1, hn4, hol⟩ := ho_parts ho
    have hr3 := ho.rooms
    have hf4 := ho.fans
    have l1 := sl_len hA.r
    have l2 := sl_len hA.f
    have o1 := sl_out hA.r
    have o2 := sl_out hA.f
    have o3 := sl_out hA.o
    have o4 := sl_out hA.h
    have k69 := fun h => C69 hcR h
    unfold failsH
    rw [hnt, hnn]
    have HF := J1 hf4
    have HR := J1 hr3
    have HN := J1 hn4
    simp only [fkC] at k69
    clear hm hw hA ho hnn hnt hn1 hn4 hol hr3 hf4
    refine ClR.walk (c := _) rfl Tryz.func72 rfl (by kernel_rfl) rfl isRet_fail ?_
    try simp only [entryEnv, Nat.reduceAdd, List.nil_append, List.cons_append, emptyHp]
    repeat' (first | (apply WO1.rowB (e := 52) (sz := 3); exact Z2; exact Z2; exact Z1; exact rfl; simp only [pM, pN, List.length_cons, List.length_nil]) | refine go1 ?_ | (apply U6; exact Z1; exact Z1; (exact k69 _); simp only [pM, pN, rR, rP]) | (refine go2 ?_ ?_ <;> intro hh) | fail)
    refine W.loopV (m.fans.length) [1] [1] (fun k e lm hp => ∃ v, e.get 4 = some (.int .i64 ↑k) /\ e.get 3 = some (v) /\ Blt hp v 3 (fksE (fanP nn k))) ?_ ?_
    ·skip
     refine ⟨.row 0 0 1, ?_, ?_, ?_⟩
     all_goals first | exact Z2 | (simp [go_sem, *]; done) | skip
     ·unfold fanP
      exact .inr ⟨0, rfl, by simp [fksE, Heap.get, Heap.new, Fl.tell, fkC], by simp [Heap.new], by simp [fksE]⟩
    intro k e lm hp hk0 hce hcl hinv
    simp only [keepE, and_true] at hce
    have c1 := hce
    clear hce
    simp only [go_sem, *, Nat.reduceBEq, Nat.reduceEqDiff, reduceIte] at c1
    simp only [keepL, and_true] at hcl
    have d1 := hcl
    clear hcl
    simp only [go_sem, *, Nat.reduceBEq, Nat.reduceEqDiff, reduceIte] at d1
    obtain ⟨v, h4, h3, hB⟩ := hinv
    by_cases hlt : k < m.fans.length
    ·have hd0 : decide ((k : Int) < ((m.fans.length : Nat) : Int)) = true := by first | (simpa using hlt; done) | (simp only [decide_eq_true_eq]; omega)
     have hv_0 := wrap_succ hlt (by have := HF.out; unfold maxL; omega)
     have hbo := hB.out
     have HB0 := J1 hB
     have HLT0 := J1 hlt
     clear hlt hB
     repeat' (first | refine goS ?_ | (refine go2 ?_ ?_ <;> intro hh) | fail)
     refine W.loopV (nn) [1, 4] [1] (fun j e1 lm1 hp1 => ∃ v1, e1.get 5 = some (.int .i64 ↑j) /\ e1.get 3 = some (v1) /\ Blt hp1 v1 3 (fksE (hourP (fanP nn k) (fun j => .fan k j) j))) ?_ ?_
     ·skip
      refine ⟨v, ?_, ?_, ?_⟩
      all_goals first | exact Z2 | (simp [go_sem, *]; done) | skip
      ·unfold hourP; exact HB0.out
     intro j e1 lm1 hp1 hk1 hce hcl hinv
     simp only [keepE, and_true] at hce
     obtain ⟨c1, c4⟩ := hce
     simp only [go_sem, *, Nat.reduceBEq, Nat.reduceEqDiff, reduceIte] at c1 c4
     simp only [keepL, and_true] at hcl
     have d1 := hcl
     clear hcl
     simp only [go_sem, *, Nat.reduceBEq, Nat.reduceEqDiff, reduceIte] at d1
     obtain ⟨v1, h5, h3, hB⟩ := hinv
     by_cases hjt : j < nn
     ·have hd1 : decide ((j : Int) < ((nn : Nat) : Int)) = true := by first | (simpa using hjt; done) | (simp only [decide_eq_true_eq]; omega)
      have hv_1 := wrap_succ hjt (by have := HN.out; unfold maxL; omega)
      have hbo1 := hB.out
      have hll : (fksE (hourP (fanP nn k) (fun j => .fan k j) j)).length + 1 <= most := by
       rw [fksE_len, hourP_len, fanP_len]
       have q1 : k * nn <= 4 * 4 := Nat.mul_le_mul (by have := HF.out; have := HLT0.out; omega) HN.out
       have := HN.out
       unfold most; omega
      have HLT1 := J1 hjt
      clear hjt
      repeat' (first | (apply WO1.append (t := 88) (u := 88) (e := 52) (e' := 52) (sz := 3) (tl := []) (hb := hB); exact Z1; exact rfl; exact Z2; exact Z2; exact Z2; (focus (exact ty_row88)); exact Z1; (focus (intro v hv; simp at hv; subst hv; first | rfl | exact hsc)); (focus (simp only [List.length_map, List.length_cons, List.length_nil]; exact hll)); (focus (simp)); (intro v' h' hB' ho' hk'; have hcc' := hB'.cells; have htt' := hB'.tup; simp only [AV.cells] at hcc'; simp only [isTuple] at htt'; simp only [pM, pN])) | refine go1 ?_ | (refine go2 ?_ ?_ <;> intro hh) | fail)
      all_goals refine contV_mk (by first | assumption | exact HLT1.out) J7 J8 ?_
      all_goals refine ⟨v', ?_, ?_, ?_⟩
      all_goals first | exact Z2 | skip
      ·rw [hourP, fksE_app]; exact hB'
     ·have hd1 : decide ((j : Int) < ((nn : Nat) : Int)) = false := by first | (simpa using hjt; done) | (simp only [decide_eq_false_iff_not]; omega)
      obtain rfl : j = nn := by omega
      have hbo1 := hB.out
      repeat' (first | refine goS ?_ | (refine go2 ?_ ?_ <;> intro hh) | fail)
      all_goals refine contV_mk (by first | assumption | exact HLT1.out) J7 J8 ?_
      all_goals refine ⟨v1, ?_, ?_, ?_⟩
      all_goals first | exact Z2 | skip
      ·rw [fanP]; exact hB
    ·have hd0 : decide ((k : Int) < ((m.fans.length : Nat) : Int)) = false := by first | (simpa using hlt; done) | (simp only [decide_eq_false_iff_not]; omega)
     obtain rfl : k = m.fans.length := by omega
     have hbo := hB.out
     have HB0 := J1 hB
     clear hB
     repeat' (first | refine goS ?_ | (refine go2 ?_ ?_ <;> intro hh) | fail)
     refine W.loopV (m.rooms.length) [1] [1] (fun j e1 lm1 hp1 => ∃ v1, e1.get 6 = some (.int .i64 ↑j) /\ e1.get 3 = some (v1) /\ Blt hp1 v1 3 (fksE (machP nn (fanP nn m.fans.length) j))) ?_ ?_
     ·skip
      refine ⟨v, ?_, ?_, ?_⟩
      all_goals first | exact Z2 | (simp [go_sem, *]; done) | skip
      ·unfold machP; exact HB0.out
     intro j e1 lm1 hp1 hk1 hce hcl hinv
     simp only [keepE, and_true] at hce
     have c1 := hce
     clear hce
     simp only [go_sem, *, Nat.reduceBEq, Nat.reduceEqDiff, reduceIte] at c1
     simp only [keepL, and_true] at hcl
     have d1 := hcl
     clear hcl
     simp only [go_sem, *, Nat.reduceBEq, Nat.reduceEqDiff, reduceIte] at d1
     obtain ⟨v1, h6, h3, hB⟩ := hinv
     by_cases hjt : j < m.rooms.length
     ·have hd1 : decide ((j : Int) < ((m.rooms.length : Nat) : Int)) = true := by first | (simpa using hjt; done) | (simp only [decide_eq_true_eq]; omega)
      have hv_1 := wrap_succ hjt (by have := HR.out; unfold maxL; omega)
      have hbo1 := hB.out
      have HB1 := J1 hB
      have HLT1 := J1 hjt
      clear hjt hB
      repeat' (first | refine goS ?_ | (refine go2 ?_ ?_ <;> intro hh) | fail)
      refine W.loopV (nn) [1, 6] [1] (fun i e2 lm2 hp2 => ∃ v2, e2.get 7 = some (.int .i64 ↑i) /\ e2.get 3 = some (v2) /\ Blt hp2 v2 3 (fksE (hourP (machP nn (fanP nn m.fans.length) j) (fun i => .mach j i) i))) ?_ ?_
      ·skip
       refine ⟨v1, ?_, ?_, ?_⟩
       all_goals first | exact Z2 | (simp [go_sem, *]; done) | skip
       ·unfold hourP; exact HB1.out
      intro i e2 lm2 hp2 hk2 hce hcl hinv
      simp only [keepE, and_true] at hce
      obtain ⟨c1, c6⟩ := hce
      simp only [go_sem, *, Nat.reduceBEq, Nat.reduceEqDiff, reduceIte] at c1 c6
      simp only [keepL, and_true] at hcl
      have d1 := hcl
      clear hcl
      simp only [go_sem, *, Nat.reduceBEq, Nat.reduceEqDiff, reduceIte] at d1
      obtain ⟨v2, h7, h3, hB⟩ := hinv
      by_cases hit : i < nn
      ·have hd2 : decide ((i : Int) < ((nn : Nat) : Int)) = true := by first | (simpa using hit; done) | (simp only [decide_eq_true_eq]; omega)
       have hv_2 := wrap_succ hit (by have := HN.out; unfold maxL; omega)
       have hbo2 := hB.out
       have hll : (fksE (hourP (machP nn (fanP nn m.fans.length) j) (fun i => .mach j i) i)).length + 1 <= most := by
        rw [fksE_len, hourP_len, machP_len, fanP_len]
        have q1 : m.fans.length * nn <= 4 * 4 := Nat.mul_le_mul HF.out HN.out
        have q2 : j * nn <= 3 * 4 := Nat.mul_le_mul (by have := HR.out; have := HLT1.out; omega) HN.out
        have := HN.out
        unfold most; omega
       have HLT2 := J1 hit
       clear hit
       repeat' (first | (apply WO1.append (t := 88) (u := 88) (e := 52) (e' := 52) (sz := 3) (tl := []) (hb := hB); exact Z1; exact rfl; exact Z2; exact Z2; exact Z2; (focus (exact ty_row88)); exact Z1; (focus (intro v hv; simp at hv; subst hv; first | rfl | exact hsc)); (focus (simp only [List.length_map, List.length_cons, List.length_nil]; exact hll)); (focus (simp)); (intro v' h' hB' ho' hk'; have hcc' := hB'.cells; have htt' := hB'.tup; simp only [AV.cells] at hcc'; simp only [isTuple] at htt'; simp only [pM, pN])) | refine go1 ?_ | (refine go2 ?_ ?_ <;> intro hh) | fail)
       all_goals refine contV_mk (by first | assumption | exact HLT2.out) J7 J8 ?_
       all_goals refine ⟨v', ?_, ?_, ?_⟩
       all_goals first | exact Z2 | skip
       ·rw [hourP, fksE_app]; exact hB'
      ·have hd2 : decide ((i : Int) < ((nn : Nat) : Int)) = false := by first | (simpa using hit; done) | (simp only [decide_eq_false_iff_not]; omega)
       obtain rfl : i = nn := by omega
       have hbo2 := hB.out
       repeat' (first | refine goS ?_ | (refine go2 ?_ ?_ <;> intro hh) | fail)
       all_goals refine contV_mk (by first | assumption | exact HLT2.out) J7 J8 ?_
       all_goals refine ⟨v2, ?_, ?_, ?_⟩
       all_goals first | exact Z2 | skip
       ·rw [machP]; exact hB
     ·have hd1 : decide ((j : Int) < ((m.rooms.length : Nat) : Int)) = false := by first | (simpa using hjt; done) | (simp only [decide_eq_false_iff_not]; omega)
      obtain rfl : j = m.rooms.length := by omega
      have hL : failP nn m.fans.length m.rooms.length = machP nn (fanP nn m.fans.length) m.rooms.length := by unfold failP; rfl
      rw [hL]
      obtain ⟨h', hz, hz2, hz1⟩ := hB.freeze
      have hbo1 := hB.out
      clear hB hL
      repeat' (first | refine goS ?_ | (refine go2 ?_ ?_ <;> intro hh) | fail)
      all_goals (simp only [resV_def (X := dX cR) Tryz.func72, Tryz.results72]; first | exact J5 | refine J6 ?_)
      all_goals rfl
   ·cases h
  ·cases h
 ·cases h
theorem K72 {X : Ctx} (hX : X.intr 72 = some (pureFn sp72)) {m : Hs} {ra fa oa ha : AV} (hm : HsA m ra fa oa ha) (hb : houseB m = true) (h : Heap) : Cl X 72 [.agg [.int .i64 m.hours, ra, fa, oa, ha]] h (.ret (slN (fksE (failsH m))) h none) :=
 Cl.intr hX (by have := hm.pur; simp only [pureFn, AV.purL, this, Bool.and_self, if_true, sp72, hm.hs, hb])
def mmA : Int × Int -> List Int -> Int × Int
 | s, [] => s
 | s, n :: r => mmA (minV s.1 n, maxV s.2 n) r
attribute [local irreducible] mmA
section
variable {c : Itr}
end
end Go.AM
namespace Go.AM
open Go Go.Proofs
variable [Keep]
attribute [local irreducible] W WO WO1 WD WQ WT thenQ blockQ endR isRet retK Cl ClR
open Go.TX (Rm Fa Ha Hs)
attribute [local irreducible] roundQ RdR failP madeF houseB
theorem K82p {X : Ctx} (hX : X.intr 82 = some (flatFnD sp82)) {ra fa oa ha : AV} {m : Hs} (hm : HsA m ra fa oa ha) (h : Heap) :
  Cl X 82 [.agg [.int .i64 m.hours, ra, fa, oa, ha]] h (.ret (.bool (houseB m)) h none) := K82 hX (SeeV.of hm.r h) (SeeV.of hm.f h) (SeeV.of hm.o h) (SeeV.of hm.h h)
theorem round_go {σ : Type} {I D : σ -> Heap -> Prop} {X : Ctx} {id : Nat} {F : Fr} {x : σ × Bool} {s' : σ} {f : FuncId} {e : Mp AV} {ps : List Tmp} {a b : Code} {st : LoopState} {p : Option Code} (hL : F.hp.get id = some (.loop f e ps a b st p)) (e1 : x = (s', true))
  (hI : I s' (F.hp.put id (.loop f e ps a b .ready none))) : roundQ X id (stI I D .bool x) (.norm F) := by
 rw [roundQ_norm]
 simp only [endV, hL]
 exact stI_go (v := .bool) e1 hI
end Go.AM
namespace Go.AM
open Go Go.Proofs
variable [Keep]
attribute [local irreducible] W WO WO1 WD WQ WT thenQ blockQ endR isRet retK Cl ClR
open Go.TX (Rm Fa Ha Hs)
def flOk (n a b : Nat) : Fl -> Prop
 | .no => True
 | .fan k j => (0 <= k /\ k < a) /\ 0 <= j /\ j < n
 | .mach k j => (0 <= k /\ k < b) /\ 0 <= j /\ j < n
theorem hourP_mem_iff {p : List Fl} {mk : Int -> Fl} {f : Fl} : ∀ {j : Nat}, f ∈ hourP p mk j ↔ f ∈ p \/ ∃ i : Nat, i < j /\ f = mk i := by
 intro j
 induction j with
 | zero => unfold hourP; simp
 | succ j ih =>
  unfold hourP
  rw [List.mem_append, ih, List.mem_singleton]
  constructor
  ·rintro ((h | ⟨i, hi, rfl⟩) | rfl)
   ·exact .inl h
   ·exact .inr ⟨i, by omega, rfl⟩
   ·exact .inr ⟨j, by omega, rfl⟩
  ·rintro (h | ⟨i, hi, rfl⟩)
   ·exact .inl (.inl h)
   ·by_cases e : i = j
    ·subst e; exact .inr rfl
    ·exact .inl (.inr ⟨i, by omega, rfl⟩)
theorem fanP_mem_iff {n : Nat} {f : Fl} : ∀ {a : Nat}, f ∈ fanP n a ↔ f = .no \/ ∃ k i : Nat, k < a /\ i < n /\ f = .fan k i := by
 intro a
 induction a with
 | zero => unfold fanP; simp
 | succ a ih =>
  unfold fanP
  rw [hourP_mem_iff, ih]
  constructor
  ·rintro ((h | ⟨k, i, hk, hi, rfl⟩) | ⟨i, hi, rfl⟩)
   ·exact .inl h
   ·exact .inr ⟨k, i, by omega, hi, rfl⟩
   ·exact .inr ⟨a, i, by omega, hi, rfl⟩
  ·rintro (h | ⟨k, i, hk, hi, rfl⟩)
   ·exact .inl (.inl h)
   ·by_cases e : k = a
    ·subst e; exact .inr ⟨i, hi, rfl⟩
    ·exact .inl (.inr ⟨k, i, by omega, hi, rfl⟩)
theorem machP_mem_iff {n : Nat} {p : List Fl} {f : Fl} : ∀ {b : Nat}, f ∈ machP n p b ↔ f ∈ p \/ ∃ k i : Nat, k < b /\ i < n /\ f = .mach k i := by
 intro a
 induction a with
 | zero => unfold machP; simp
 | succ a ih =>
  unfold machP
  rw [hourP_mem_iff, ih]
  constructor
  ·rintro ((h | ⟨k, i, hk, hi, rfl⟩) | ⟨i, hi, rfl⟩)
   ·exact .inl h
   ·exact .inr ⟨k, i, by omega, hi, rfl⟩
   ·exact .inr ⟨a, i, by omega, hi, rfl⟩
  ·rintro (h | ⟨k, i, hk, hi, rfl⟩)
   ·exact .inl (.inl h)
   ·by_cases e : k = a
    ·subst e; exact .inr ⟨i, hi, rfl⟩
    ·exact .inl (.inr ⟨k, i, by omega, hi, rfl⟩)
theorem fail_mem {n a b : Nat} {f : Fl} : f ∈ failP n a b ↔ flOk n a b f := by
 unfold failP
 rw [machP_mem_iff, fanP_mem_iff]
 cases f with
 | no => simp [flOk]
 | fan x y =>
  simp only [flOk, reduceCtorEq, false_or, Fl.fan.injEq, and_false, exists_false, or_false]
  constructor
  ·rintro ⟨k, i, h1, h2, rfl, rfl⟩; omega
  ·rintro ⟨h1, h2, h3⟩; exact ⟨x.toNat, y.toNat, by omega, by omega, by omega, by omega⟩
 | mach x y =>
  simp only [flOk, reduceCtorEq, false_or, Fl.mach.injEq, and_false, exists_false]
  constructor
  ·rintro ⟨k, i, h1, h2, rfl, rfl⟩; omega
  ·rintro ⟨h1, h2, h3⟩; exact ⟨x.toNat, y.toNat, by omega, by omega, by omega, by omega⟩
theorem fkEq_iff {a b : Fk} : fkEq a b = true ↔ a = b := by
 obtain ⟨a1, a2, a3⟩ := a
 obtain ⟨b1, b2, b3⟩ := b
 simp [fkEq, and_assoc]
theorem find_some {x : Fk} {f : Fl} : ∀ {l : List Fl}, findF x l = some f -> f ∈ l /\ f.tell = x
 | [], h => by cases h
 | g :: l, h => by
  unfold findF at h
  split at h
  ·rename_i q
   cases h
   exact ⟨List.mem_cons_self, fkEq_iff.1 q⟩
  ·obtain ⟨h1, h2⟩ := find_some h
   exact ⟨List.mem_cons_of_mem _ h1, h2⟩
theorem find_none {x : Fk} : ∀ {l : List Fl}, findF x l = none -> ∀ f ∈ l, f.tell ≠ x
 | [], h, f, hf => by cases hf
 | g :: l, h, f, hf => by
  unfold findF at h
  split at h
  ·cases h
  ·rename_i q
   rcases List.mem_cons.1 hf with rfl | hf
   ·exact fun e => q (fkEq_iff.2 e)
   ·exact find_none h f hf
theorem inB_iff {x lo hi : Int} : inB x lo hi = true ↔ lo <= x /\ x <= hi := by
 unfold inB
 simp only [Bool.and_eq_true, decide_eq_true_eq, ge_iff_le]
theorem isFail_find {m : Hs} (ho : HOk m) (x : Fk) : isFail m x = (findF x (failsH m)).isSome := by
 have hr := ho.rooms
 have hf := ho.fans
 have hh := ho.hours
 obtain ⟨w, a, b⟩ := x
 have key : isFail m ⟨w, a, b⟩ = true ↔ ∃ f, f ∈ failsH m /\ f.tell = ⟨w, a, b⟩ := by
  unfold isFail failsH
  rw [w64_small (n := (m.fans.length : Int) - 1) (by omega) (by omega), w64_small (n := (m.rooms.length : Int) - 1) (by omega) (by omega), w64_small (n := m.hours - 1) (by omega) (by omega)]
  simp only
  by_cases h1 : w = 1
  ·subst h1
   simp only [beq_self_eq_true, if_true, Bool.true_and, Bool.and_eq_true, beq_iff_eq]
   constructor
   ·rintro ⟨rfl, rfl⟩
    exact ⟨.no, fail_mem.2 trivial, rfl⟩
   ·rintro ⟨f, hf, e⟩
    cases f <;> simp only [Fl.tell, Fk.mk.injEq] at e <;> omega
  ·have h1' : (w == 1) = false := by simpa using h1
   rw [h1']
   simp only [Bool.false_eq_true, if_false]
   by_cases h2 : w = 2
   ·subst h2
    simp only [beq_self_eq_true, if_true, Bool.and_eq_true, inB_iff]
    constructor
    ·rintro ⟨q1, q2⟩
     exact ⟨.fan a b, fail_mem.2 (by simp only [flOk]; omega), rfl⟩
    ·rintro ⟨f, hf, e⟩
     have hm := fail_mem.1 hf
     cases f <;> simp only [Fl.tell, Fk.mk.injEq] at e <;> simp only [flOk] at hm <;> omega
   ·have h2' : (w == 2) = false := by simpa using h2
    rw [h2']
    simp only [Bool.false_eq_true, if_false, Bool.and_eq_true, inB_iff, beq_iff_eq]
    constructor
    ·rintro ⟨⟨rfl, q1⟩, q2⟩
     exact ⟨.mach a b, fail_mem.2 (by simp only [flOk]; omega), rfl⟩
    ·rintro ⟨f, hf, e⟩
     have hm := fail_mem.1 hf
     cases f <;> simp only [Fl.tell, Fk.mk.injEq] at e <;> simp only [flOk] at hm <;> omega
 cases hq : findF ⟨w, a, b⟩ (failsH m) with
 | some f =>
  have := find_some hq
  rw [Option.isSome_some]
  exact key.2 ⟨f, this⟩
 | none =>
  rw [Option.isSome_none]
  cases hi : isFail m ⟨w, a, b⟩ with
  | false => rfl
  | true =>
   obtain ⟨f, h1, h2⟩ := key.1 hi
   exact absurd h2 (find_none hq f h1)
theorem fails_cons (m : Hs) : ∃ l, failsH m = .no :: l := by
 obtain ⟨r, hr⟩ := fail_no (n := m.hours.toNat) (fans := m.fans.length) (rooms := m.rooms.length)
 exact ⟨r, hr.symm⟩
def slLen : AV -> Option Nat
 | .nilslice => some 0
 | .vempty => some 0
 | .vslice l => some l.length
 | _ => none
theorem slLen_is {a : AV} {n : Nat} (h : slLen a = some n) : lenS a = some n /\ outV (some a) = some a /\ isTuple a = false := by
 unfold slLen at h
 split at h <;> cases h <;> exact ⟨rfl, rfl, rfl⟩
theorem slLen_mk {a : AV} {es : List AV} (h : isSl a es) : slLen a = some es.length := by rcases h with ⟨rfl | rfl, rfl⟩ | rfl <;> rfl
def sp21S : List AV -> Option AV
 | [.agg [.int .i64 _, ra, fa, oa, ha]] => match slLen ra, slLen fa, slLen oa, slLen ha with
  | some a, some b, some c, some d => some (.bool (decide ((a : Int) <= 5) && decide ((b : Int) <= 7) && decide ((c : Int) <= 6) && decide ((d : Int) <= 6)))
  | _, _, _, _ => none
 | _ => none
theorem F21S : IntrFn Tryz.prog 21 (pureFn sp21S) := by
 refine pure_fn (X := dX i0) i0_sound ?_ ?_
 ·intro args v h
  unfold sp21S at h
  split at h
  ·split at h
   ·cases h; rfl
   ·cases h
  ·cases h
 intro args v h
 unfold sp21S at h
 split at h
 ·rename_i n ra fa oa ha
  split at h
  ·rename_i a b c d v1 v2 v3 v4
   have h := Option.some.inj h
   obtain ⟨l1, o1, _⟩ := slLen_is v1
   obtain ⟨l2, o2, _⟩ := slLen_is v2
   obtain ⟨l3, o3, _⟩ := slLen_is v3
   obtain ⟨l4, o4, _⟩ := slLen_is v4
   subst h
   obtain ⟨r, hr⟩ : ∃ r, r = (decide ((a : Int) <= 5) && decide ((b : Int) <= 7) && decide ((c : Int) <= 6) && decide ((d : Int) <= 6)) := ⟨_, rfl⟩
   rw [<- hr]
   have hS := J1 hr
   clear v1 v2 v3 v4 hr
   refine ClR.walk (c := _) rfl Tryz.func21 rfl (by kernel_rfl) rfl isRet_fail ?_
   simp only [entryEnv, Nat.reduceAdd, emptyHp]
   repeat' (first | refine goS ?_ | (refine go2 ?_ ?_ <;> intro hh) | fail)
   all_goals (simp only [resV_def (X := dX i0) Tryz.func21, Tryz.results21]; first | exact J5 | refine J6 ?_)
   all_goals (rw [hS.out]; clear hS; first | (simp_all; done) | (simp_all; intros; omega))
  ·cases h
 ·cases h
theorem K22 {X : Ctx} (hX : X.intr 22 = some (pureFn sp22)) (h : Heap) : Cl X 22 [] h (.ret (.bool true) h none) := Cl.intr hX (by simp [pureFn, AV.purL, sp22])
structure HsI (m : Hs) (ra fa oa ha : AV) : Prop where
 r : isSl ra (m.rooms.map rmC.enc)
 f : isSl fa (m.fans.map faC.enc)
 o : isSl oa (m.op.map intC.enc)
 h : isSl ha (m.hands.map haC.enc)
theorem K21I {X : Ctx} (hX : X.intr 21 = some (pureFn sp21S)) {m : Hs} {ra fa oa ha : AV} (v : HsI m ra fa oa ha) (h : Heap) : Cl X 21 [.agg [.int .i64 m.hours, ra, fa, oa, ha]] h (.ret (.bool (shortB m)) h none) := by
 have h1 := slLen_mk v.r
 have h2 := slLen_mk v.f
 have h3 := slLen_mk v.o
 have h4 := slLen_mk v.h
 rw [List.length_map] at h1 h2 h3 h4
 have p1 := v.r.pur (enc_pur rmC _)
 have p2 := v.f.pur (enc_pur faC _)
 have p3 := v.o.pur (enc_pur intC _)
 have p4 := v.h.pur (enc_pur haC _)
 exact Cl.intr hX (by simp [pureFn, AV.pur, AV.purL, p1, p2, p3, p4, sp21S, h1, h2, h3, h4, shortB])
theorem HsI.short {m : Hs} {ra fa oa ha : AV} (v : HsI m ra fa oa ha) (g : shortB m = true) : HsA m ra fa oa ha := by
 unfold shortB at g
 simp only [Bool.and_eq_true, decide_eq_true_eq] at g
 obtain ⟨⟨⟨g1, g2⟩, g3⟩, g4⟩ := g
 exact ⟨slV_mk v.r (by unfold maxL; omega), slV_mk v.f (by unfold maxL; omega), slV_mk v.o (by unfold maxL; omega), slV_mk v.h (by unfold maxL; omega)⟩
theorem K24p {X : Ctx} (hX : X.intr 24 = some (flatFnD sp82)) {ra fa oa ha : AV} {m : Hs} (hm : HsA m ra fa oa ha) (h : Heap) :
  Cl X 24 [.agg [.int .i64 m.hours, ra, fa, oa, ha]] h (.ret (.bool (houseB m)) h none) := K24 hX (SeeV.of hm.r h) (SeeV.of hm.f h) (SeeV.of hm.o h) (SeeV.of hm.h h)
end Go.AM
