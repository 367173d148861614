/-
  A part of the proof: contracts of functions.
-/
import Derived.Test.YtkpbdjpekjdhcaaGreatDoorTBH
import Derived.Test.YtkpbdjpekjdhcaaGreatDoorTBL
import Derived.Test.YtkpbdjpekjdhcaaGreatDoorTBM
import Derived.Test.YtkpbdjpekjdhcaaGreatDoorTAU
import Derived.Test.YtkpbdjpekjdhcaaGreatDoorTBD
set_option linter.unusedSectionVars false
set_option linter.unusedVariables false
set_option linter.unusedSimpArgs false
set_option maxRecDepth 100000
namespace Go.AM
open Go Go.Proofs
variable [Keep]
attribute [local irreducible] W WO WO1 WD WQ WT thenQ blockQ endR isRet retK Cl ClR
open Go.TX (Rm Fa Ha Hs)
theorem lex_drop {x y : List Int} {j : Nat} {u v : Int} (hu : x[j]? = some u) (hv : y[j]? = some v) : lexD (x.drop j) (y.drop j) = if (u != v) = true then some (decide (u < v)) else lexD (x.drop (j + 1)) (y.drop (j + 1)) := by
 obtain ⟨a1, a2⟩ := List.getElem?_eq_some_iff.1 hu
 obtain ⟨b1, b2⟩ := List.getElem?_eq_some_iff.1 hv
 rw [List.drop_eq_getElem_cons a1, List.drop_eq_getElem_cons b1, a2, b2, lexD]
theorem lex_end {x y : List Int} {j : Nat} (h : ¬ (j < x.length ∧ j < y.length)) : lexD (x.drop j) (y.drop j) = none := by
 by_cases e : j < x.length
 ·have e2 : y.drop j = [] := List.drop_eq_nil_of_le (by omega)
  rw [e2]
  cases x.drop j <;> rfl
 ·have e2 : x.drop j = [] := List.drop_eq_nil_of_le (by omega)
  rw [e2]
  rfl
theorem bef_drop {a b : List (List Int)} {k : Nat} {x y : List Int} (hx : a[k]? = some x) (hy : b[k]? = some y) : befG (a.drop k) (b.drop k) = (lexD x y).getD (befG (a.drop (k + 1)) (b.drop (k + 1))) := by
 obtain ⟨a1, a2⟩ := List.getElem?_eq_some_iff.1 hx
 obtain ⟨b1, b2⟩ := List.getElem?_eq_some_iff.1 hy
 rw [List.drop_eq_getElem_cons a1, List.drop_eq_getElem_cons b1, a2, b2, befG]
theorem bef_end {a b : List (List Int)} {k : Nat} (h : ¬ (k < a.length ∧ k < b.length)) : befG (a.drop k) (b.drop k) = false := by
 by_cases e : k < a.length
 ·have e2 : b.drop k = [] := List.drop_eq_nil_of_le (by omega)
  rw [e2]
  cases a.drop k <;> rfl
 ·have e2 : a.drop k = [] := List.drop_eq_nil_of_le (by omega)
  rw [e2]
  rfl
section
variable {c : Itr}
set_option maxHeartbeats 8000000 in
theorem C59 (h59 : c 59 = none) (a b : AV) (ga gb : List (List Int)) (ha : lisV a = some ga) (hb : lisV b = some gb) (h : Heap) : Cl (dX c) 59 [a, b] h (.ret (.bool (befG ga gb)) h none) := by
 refine ClR.cl ?_
 have la := lis_len ha
 have lb := lis_len hb
 have oa := lis_out ha
 have ob := lis_out hb
 have ma := lis_max ha
 have HA := Lib.hid ha
 have HB := Lib.hid hb
 clear ha hb
 refine ClR.walk (c := _) h59 Tryz.func59 rfl (by kernel_rfl) rfl (fun e => by cases e) ?_
 try simp only [entryEnv, Nat.reduceAdd, List.nil_append, List.cons_append, emptyHp]
 repeat' (first | refine goS ?_ | refine go2 (fun hh => ?_) (fun hh => ?_) | fail)
 refine W.loopH (min ga.length gb.length) [0, 1] [] (fun k e lm => e.get 5 = some (.int .i64 ↑k) ∧ befG ga gb = befG (ga.drop k) (gb.drop k)) ?_ ?_
 ·skip
  refine ⟨?_, ?_⟩
  all_goals first | exact Z2 | (simp [go_sem, *]; done) | skip
  all_goals rfl
 intro k e lm hk0 hce hcl hinv
 simp only [keepE, and_true] at hce
 obtain ⟨c0, c1⟩ := hce
 simp only [go_sem, *, Nat.reduceLT, Int.reduceEq, Int.reduceBEq, Int.reduceLE, Int.reduceLT, Nat.reduceAdd, Nat.reduceBEq, Nat.reduceEqDiff, reduceIte, Nat.reduceLeDiff, Nat.reduceMul, Nat.reduceSub, reduceCtorEq] at c0 c1
 clear hcl
 obtain ⟨h5, hq⟩ := hinv
 by_cases hlt : k < min ga.length gb.length
 ·have hd0 : decide ((k : Int) < ((min ga.length gb.length : Nat) : Int)) = true := by first | (simpa using hlt; done) | (simp only [decide_eq_true_eq]; omega)
  have hv_0 := wrap_succ hlt (by omega)
  have d1 : decide ((k : Int) < (ga.length : Int)) = true := by simp only [decide_eq_true_eq]; omega
  have d2 : decide ((k : Int) < (gb.length : Int)) = true := by simp only [decide_eq_true_eq]; omega
  obtain ⟨x, hx⟩ := get_some (l := ga) (k := k) (by omega)
  obtain ⟨y, hy⟩ := get_some (l := gb) (k := k) (by omega)
  obtain ⟨xa, hx1, hx2⟩ := lis_idx HA.out hx
  obtain ⟨ya, hy1, hy2⟩ := lis_idx HB.out hy
  have lx := sl_len hx1
  have ly := sl_len hy1
  have ox := sl_out hx1
  have oy := sl_out hy1
  have hbd := bef_drop hx hy
  rw [hbd] at hq
  have mx := sl_max hx1
  have HQ := Lib.hid hq
  have HX1 := Lib.hid hx1
  have HY1 := Lib.hid hy1
  have HLT0 := Lib.hid hlt
  clear hx hy hx1 hy1 hbd hq hlt
  repeat' (first | refine goS ?_ | refine go2 (fun hh => ?_) (fun hh => ?_) | fail)
  refine W.loopH (min x.length y.length) [0, 1, 5] [] (fun j e1 lm1 => e1.get 6 = some (.int .i64 ↑j) ∧ lexD x y = lexD (x.drop j) (y.drop j)) ?_ ?_
  ·skip
   refine ⟨?_, ?_⟩
   all_goals first | exact Z2 | (simp [go_sem, *]; done) | skip
   all_goals rfl
  intro j e1 lm1 hk1 hce hcl hinv
  simp only [keepE, and_true] at hce
  obtain ⟨c0, c1, c5⟩ := hce
  simp only [go_sem, *, Nat.reduceLT, Int.reduceEq, Int.reduceBEq, Int.reduceLE, Int.reduceLT, Nat.reduceAdd, Nat.reduceBEq, Nat.reduceEqDiff, reduceIte, Nat.reduceLeDiff, Nat.reduceMul, Nat.reduceSub, reduceCtorEq] at c0 c1 c5
  clear hcl
  obtain ⟨h6, hq⟩ := hinv
  by_cases hjt : j < min x.length y.length
  ·have hd1 : decide ((j : Int) < ((min x.length y.length : Nat) : Int)) = true := by first | (simpa using hjt; done) | (simp only [decide_eq_true_eq]; omega)
   have hv_1 := wrap_succ hjt (by omega)
   have d3 : decide ((j : Int) < (x.length : Int)) = true := by simp only [decide_eq_true_eq]; omega
   have d4 : decide ((j : Int) < (y.length : Int)) = true := by simp only [decide_eq_true_eq]; omega
   obtain ⟨u, hu⟩ := get_some (l := x) (k := j) (by omega)
   obtain ⟨v, hv⟩ := get_some (l := y) (k := j) (by omega)
   have hix1 := fun H => ints_idx HX1.out hu H
   have hix2 := fun H => ints_idx HY1.out hv H
   rw [lex_drop hu hv] at hq
   have HLT1 := Lib.hid hjt
   have HQ2 := Lib.hid hq
   clear hu hv hq hjt
   cases e : (u != v) with
   | true =>
    have hr : befG ga gb = decide (u < v) := by
     have h1 := HQ.out
     have h2 := HQ2.out
     rw [e, if_pos rfl] at h2
     rw [h2] at h1
     exact h1
    rw [hr]
    clear hr
    repeat' (first | (apply W.drawQ (id := 7) (l1 := [0, 1, 2, 3, 4, 5, 6, 7, 8, 9, 10, 11, 12, 13, 14]) (l2 := []); kernel_rfl; kernel_rfl; kernel_rfl; exact Z4) | (apply W.drawQ (id := 8) (l1 := [0, 1, 2, 3, 4, 5, 6, 7, 8, 9, 10, 11, 12, 13, 14, 15]) (l2 := []); kernel_rfl; kernel_rfl; kernel_rfl; exact Z4) | refine go1 ?_ | refine go2 (fun hh => ?_) (fun hh => ?_) | fail)
    all_goals (simp only [resV_def (X := dX c) Tryz.func59, Tryz.results59]; first | exact J5 | refine J6 ?_)
    all_goals rfl
   | false =>
    repeat' (first | (apply W.drawQ (id := 7) (l1 := [0, 1, 2, 3, 4, 5, 6, 7, 8, 9, 10, 11, 12, 13, 14]) (l2 := []); kernel_rfl; kernel_rfl; kernel_rfl; exact Z4) | (apply W.drawQ (id := 8) (l1 := [0, 1, 2, 3, 4, 5, 6, 7, 8, 9, 10, 11, 12, 13, 14, 15]) (l2 := []); kernel_rfl; kernel_rfl; kernel_rfl; exact Z4) | refine go1 ?_ | refine go2 (fun hh => ?_) (fun hh => ?_) | fail)
    all_goals refine contH_mk (by first | assumption | exact HLT1.out | exact HLT0.out) (by simp only [keepE, and_true, and_self, go_sem, *, Nat.reduceLT, Int.reduceEq, Int.reduceBEq, Int.reduceLE, Int.reduceLT, Nat.reduceAdd, Nat.reduceBEq, Nat.reduceEqDiff, reduceIte, Nat.reduceLeDiff, Nat.reduceMul, Nat.reduceSub, reduceCtorEq]) (by simp only [keepL, and_true, and_self, go_sem, *, Nat.reduceLT, Int.reduceEq, Int.reduceBEq, Int.reduceLE, Int.reduceLT, Nat.reduceAdd, Nat.reduceBEq, Nat.reduceEqDiff, reduceIte, Nat.reduceLeDiff, Nat.reduceMul, Nat.reduceSub, reduceCtorEq]) ?_
    all_goals refine ⟨?_, ?_⟩
    all_goals first | exact Z2 | skip
    all_goals (have h2 := HQ2.out; rw [e] at h2; simpa using h2)
  ·have hd1 : decide ((j : Int) < ((min x.length y.length : Nat) : Int)) = false := by first | (simpa using hjt; done) | (simp only [decide_eq_false_iff_not]; omega)
   obtain rfl : j = min x.length y.length := by omega
   have d3 : (decide (((min x.length y.length : Nat) : Int) < (x.length : Int)) && decide (((min x.length y.length : Nat) : Int) < (y.length : Int))) = false := by
    rw [Bool.and_eq_false_iff]
    simp only [decide_eq_false_iff_not]
    omega
   have hqq : lexD x y = none := by rw [hq]; exact lex_end (by omega)
   have HQ2 := Lib.hid hqq
   clear hq hqq hjt
   generalize min x.length y.length = mn at *
   cases d4 : decide ((mn : Int) < (x.length : Int)) with
   | true =>
    rw [d4] at d3
    simp only [Bool.true_and] at d3
    repeat' (first | refine goS ?_ | refine go2 (fun hh => ?_) (fun hh => ?_) | fail)
    all_goals refine contH_mk (by first | assumption | exact HLT0.out | exact HLT0.out) (by simp only [keepE, and_true, and_self, go_sem, *, Nat.reduceLT, Int.reduceEq, Int.reduceBEq, Int.reduceLE, Int.reduceLT, Nat.reduceAdd, Nat.reduceBEq, Nat.reduceEqDiff, reduceIte, Nat.reduceLeDiff, Nat.reduceMul, Nat.reduceSub, reduceCtorEq]) (by simp only [keepL, and_true, and_self, go_sem, *, Nat.reduceLT, Int.reduceEq, Int.reduceBEq, Int.reduceLE, Int.reduceLT, Nat.reduceAdd, Nat.reduceBEq, Nat.reduceEqDiff, reduceIte, Nat.reduceLeDiff, Nat.reduceMul, Nat.reduceSub, reduceCtorEq]) ?_
    all_goals refine ⟨?_, ?_⟩
    all_goals first | exact Z2 | skip
    all_goals (have h1 := HQ.out; rw [HQ2.out] at h1; exact h1)
   | false =>
    clear d3
    repeat' (first | refine goS ?_ | refine go2 (fun hh => ?_) (fun hh => ?_) | fail)
    all_goals refine contH_mk (by first | assumption | exact HLT0.out | exact HLT0.out) (by simp only [keepE, and_true, and_self, go_sem, *, Nat.reduceLT, Int.reduceEq, Int.reduceBEq, Int.reduceLE, Int.reduceLT, Nat.reduceAdd, Nat.reduceBEq, Nat.reduceEqDiff, reduceIte, Nat.reduceLeDiff, Nat.reduceMul, Nat.reduceSub, reduceCtorEq]) (by simp only [keepL, and_true, and_self, go_sem, *, Nat.reduceLT, Int.reduceEq, Int.reduceBEq, Int.reduceLE, Int.reduceLT, Nat.reduceAdd, Nat.reduceBEq, Nat.reduceEqDiff, reduceIte, Nat.reduceLeDiff, Nat.reduceMul, Nat.reduceSub, reduceCtorEq]) ?_
    all_goals refine ⟨?_, ?_⟩
    all_goals first | exact Z2 | skip
    all_goals (have h1 := HQ.out; rw [HQ2.out] at h1; exact h1)
 ·have hd0 : decide ((k : Int) < ((min ga.length gb.length : Nat) : Int)) = false := by first | (simpa using hlt; done) | (simp only [decide_eq_false_iff_not]; omega)
  obtain rfl : k = min ga.length gb.length := by omega
  have d3 : (decide (((min ga.length gb.length : Nat) : Int) < (ga.length : Int)) && decide (((min ga.length gb.length : Nat) : Int) < (gb.length : Int))) = false := by
   rw [Bool.and_eq_false_iff]
   simp only [decide_eq_false_iff_not]
   omega
  have hqq : befG ga gb = false := by rw [hq]; exact bef_end (by omega)
  rw [hqq]
  clear hq hqq hlt
  generalize min ga.length gb.length = mn at *
  cases d4 : decide ((mn : Int) < (ga.length : Int)) with
  | true =>
   rw [d4] at d3
   simp only [Bool.true_and] at d3
   repeat' (first | refine goS ?_ | refine go2 (fun hh => ?_) (fun hh => ?_) | fail)
   all_goals (simp only [resV_def (X := dX c) Tryz.func59, Tryz.results59]; first | exact J5 | refine J6 ?_)
   all_goals rfl
  | false =>
   clear d3
   repeat' (first | refine goS ?_ | refine go2 (fun hh => ?_) (fun hh => ?_) | fail)
   all_goals (simp only [resV_def (X := dX c) Tryz.func59, Tryz.results59]; first | exact J5 | refine J6 ?_)
   all_goals rfl
end
def sp65 : List AV → Option AV
 | [pa, da] => match slV intC pa, slV intC da with
  | some p, some d => some (.bool (doesB p d))
  | _, _ => none
 | _ => none
theorem flat65 : ∀ args v, sp65 args = some v → v.flat = true := by
 intro args v h
 unfold sp65 at h
 split at h
 ·split at h
  ·cases h; rfl
  ·cases h
 ·cases h
noncomputable def cU0 : Itr := fun _ => none
theorem cU0_sound : Sound (dX cU0) := dX_sound (fun f g h => by cases h)
theorem p65 : ∀ args v, sp65 args = some v → v.pur = true := by
 intro args v h
 unfold sp65 at h
 split at h
 ·split at h
  ·cases h; rfl
  ·cases h
 ·cases h
theorem F65 : IntrFn Tryz.prog 65 (pureFn sp65) := by
 refine pure_fn (X := dX cU0) cU0_sound p65 ?_
 intro args v h
 unfold sp65 at h
 split at h
 ·split at h
  ·rename_i pa da p d hp hd
   cases h
   unfold ClR
   exact ⟨_, C65 (c := cU0) rfl _ _ _ _ hp hd emptyHp, isRet_ret.2 rfl⟩
  ·cases h
 ·cases h
theorem F65D : IntrFn Tryz.prog 65 (flatFnD sp65) := flat_of_pure flat65 F65
theorem K65D {X : Ctx} (hX : X.intr 65 = some (flatFnD sp65)) {pa da : AV} {p d : List Int} {h : Heap} (hp : slV intC pa = some p) (hd : SeeV h intC da d) : Cl X 65 [pa, da] h (.ret (.bool (doesB p d)) h none) := by
 obtain ⟨da', e1, e2⟩ := hd.vD
 exact Cl.intr hX (by simp only [flatFnD, viewDs, viewD_sl hp, e1, sp65, hp, e2])
theorem dutC_nil (R : Nat) : dutC R [] = List.replicate R 0 := by
 unfold dutC
 simp only [List.count_nil]
 rw [show (fun _ : Nat => (((0 : Nat)) : Int)) = Function.const Nat (0 : Int) from rfl, List.map_const]
 simp
theorem dutC_neg {R : Nat} (p : List Int) {r : Int} (h : r < 0) : dutC R (p ++ [r]) = dutC R p := by
 unfold dutC
 apply List.map_congr_left
 intro s _
 rw [List.count_append, List.count_singleton]
 have : (r == (s : Int)) = false := by simp only [beq_eq_false_iff_ne, ne_eq]; omega
 rw [this]
 simp
theorem dutC_pos {R : Nat} (p : List Int) {r : Nat} (h : r < R) : dutC R (p ++ [(r : Int)]) = (dutC R p).set r ((dutC R p).getD r 0 + 1) := by
 apply List.ext_getElem?
 intro i
 rw [List.getElem?_set]
 by_cases hi : i < R
 ·rw [dutC_get _ hi, dutC_len, List.count_append, List.count_singleton]
  by_cases e : r = i
  ·subst e
   rw [if_pos rfl, if_pos h]
   simp [List.getD, dutC_get p h]
  ·have : ((r : Int) == (i : Int)) = false := by simp only [beq_eq_false_iff_ne, ne_eq]; omega
   rw [this, if_neg e, dutC_get p hi]
   simp
 ·rw [List.getElem?_eq_none (by rw [dutC_len]; omega)]
  by_cases e : r = i
  ·omega
  ·rw [if_neg e, List.getElem?_eq_none (by rw [dutC_len]; omega)]
attribute [local irreducible] houseB pathB airS failsH ordP dutyP dutyR ordM dutC befG doesB
noncomputable def c14 : Itr
 | 21 => some (pureFn sp21S)
 | 22 => some (pureFn sp22)
 | 24 => some (flatFnD sp82)
 | 45 => some (newQ sp45)
 | 46 => some (newQ sp46)
 | 47 => some (flatFnD sp47)
 | 60 => some (pureFn sp60)
 | 61 => some (pureFn sp61)
 | 65 => some (flatFnD sp65)
 | 84 => some (pureFn sp84)
 | 85 => some (pureFn sp85)
 | _ => none
theorem c14_sound (hT : TabK Tryz.prog) : Sound (dX c14) := dX_sound (fun f g h => by
 unfold c14 at h
 split at h
 ·cases h; exact F21S
 ·cases h; exact F22 hT
 ·cases h; exact F24D
 ·cases h; exact F45
 ·cases h; exact F46
 ·cases h; exact F47D
 ·cases h; exact F60
 ·cases h; exact F61
 ·cases h; exact F65D
 ·cases h; exact F84
 ·cases h; exact F85
 ·cases h)
theorem hc14 : CxR c14 := ⟨rfl, rfl, rfl, rfl, rfl, rfl, rfl, rfl⟩
set_option maxHeartbeats 32000000 in
theorem T14 (ra fa oa ha pa : AV) (m : Hs) (limit : Int) (p : List Int) (v : HsI m ra fa oa ha) (q : isSl pa (p.map intC.enc)) : ClR (dX c14) 14 [.agg [.int .i64 m.hours, ra, fa, oa, ha], pa, .int .i64 limit] emptyHp (isRet (.bool true)) := by
 have o1 := v.r.out
 have o2 := v.f.out
 have o3 := v.o.out
 have o4 := v.h.out
 have op := q.out
 have lp := q.len
 rw [List.length_map] at lp
 have k22 : ∀ h, Cl (dX c14) 22 [] h (.ret (.bool true) h none) := fun h => K22 rfl h
 have k21 := fun h => K21I (X := dX c14) rfl v h
 have n0 : ((0 : Int) != 0) = false := rfl
 have tt : (true && true) = true := rfl
 cases gs : shortB m with
 | false =>
  rw [gs] at k21
  clear v q gs
  refine ClR.walk (c := _) rfl Tryz.func14 rfl (by kernel_rfl) rfl isRet_fail ?_
  try simp only [entryEnv, Nat.reduceAdd, List.nil_append, List.cons_append, emptyHp]
  repeat' (first | refine goS ?_ | (apply U6; exact Z1; exact Z1; (focus (simp only [List.nil_append, List.append_nil]; first | exact k21 _ | exact k22 _)); simp only [pM, pN, rR, rP]) | refine go2 (fun hh => ?_) (fun hh => ?_) | fail)
  all_goals (simp only [resV_def (X := dX c14) Tryz.func14, Tryz.results14]; first | exact J5 | refine J6 ?_)
  all_goals rfl
 | true =>
 rw [gs] at k21
 cases gz : decide ((p.length : Int) > 7) with
 | true =>
  clear v q gs
  refine ClR.walk (c := _) rfl Tryz.func14 rfl (by kernel_rfl) rfl isRet_fail ?_
  try simp only [entryEnv, Nat.reduceAdd, List.nil_append, List.cons_append, emptyHp]
  repeat' (first | refine goS ?_ | (apply U6; exact Z1; exact Z1; (focus (simp only [List.nil_append, List.append_nil]; first | exact k21 _ | exact k22 _)); simp only [pM, pN, rR, rP]) | refine go2 (fun hh => ?_) (fun hh => ?_) | fail)
  all_goals (simp only [resV_def (X := dX c14) Tryz.func14, Tryz.results14]; first | exact J5 | refine J6 ?_)
  all_goals rfl
 | false =>
 have hA := v.short gs
 have hp : slV intC pa = some p := slV_mk q (by simp only [decide_eq_false_iff_not] at gz; unfold maxL; omega)
 have k24 := fun h => K24p (X := dX c14) rfl hA h
 have k62 := fun h => C62 (c := c14) hc14 rfl m ra fa oa ha pa p hA hp h
 have k50 := fun h => C50 (c := c14) hc14 rfl limit h
 cases hb : houseB m with
 | false =>
  rw [hb] at k24
  clear v q gs hA hp hb
  refine ClR.walk (c := _) rfl Tryz.func14 rfl (by kernel_rfl) rfl isRet_fail ?_
  try simp only [entryEnv, Nat.reduceAdd, List.nil_append, List.cons_append, emptyHp]
  repeat' (first | refine goS ?_ | (apply U6; exact Z1; exact Z1; (focus (simp only [List.nil_append, List.append_nil]; first | exact k21 _ | exact k22 _ | exact k24 _)); simp only [pM, pN, rR, rP]) | refine go2 (fun hh => ?_) (fun hh => ?_) | fail)
  all_goals (simp only [resV_def (X := dX c14) Tryz.func14, Tryz.results14]; first | exact J5 | refine J6 ?_)
  all_goals rfl
 | true =>
 rw [hb] at k24
 cases hq : pathB m p with
 | false =>
  rw [hq] at k62
  clear v q gs hA hp hb hq
  refine ClR.walk (c := _) rfl Tryz.func14 rfl (by kernel_rfl) rfl isRet_fail ?_
  try simp only [entryEnv, Nat.reduceAdd, List.nil_append, List.cons_append, emptyHp]
  repeat' (first | refine goS ?_ | (apply U6; exact Z1; exact Z1; (focus (simp only [List.nil_append, List.append_nil]; first | exact k21 _ | exact k22 _ | exact k24 _ | exact k62 _)); simp only [pM, pN, rR, rP]) | refine go2 (fun hh => ?_) (fun hh => ?_) | fail)
  all_goals (simp only [resV_def (X := dX c14) Tryz.func14, Tryz.results14]; first | exact J5 | refine J6 ?_)
  all_goals rfl
 | true =>
 rw [hq] at k62
 cases hli : inB limit 0 2000 with
 | false =>
  rw [hli] at k50
  clear v q gs hA hp hb hq hli
  refine ClR.walk (c := _) rfl Tryz.func14 rfl (by kernel_rfl) rfl isRet_fail ?_
  try simp only [entryEnv, Nat.reduceAdd, List.nil_append, List.cons_append, emptyHp]
  repeat' (first | refine goS ?_ | (apply U6; exact Z1; exact Z1; (focus (simp only [List.nil_append, List.append_nil]; first | exact k21 _ | exact k22 _ | exact k24 _ | exact k62 _ | exact k50 _)); simp only [pM, pN, rR, rP]) | refine go2 (fun hh => ?_) (fun hh => ?_) | fail)
  all_goals (simp only [resV_def (X := dX c14) Tryz.func14, Tryz.results14]; first | exact J5 | refine J6 ?_)
  all_goals rfl
 | true =>
 rw [hli] at k50
 have ho := house_ok hb
 have hh := ho.hours
 have hr3 := ho.rooms
 obtain ⟨w, w1, w2, w3, w4, w5⟩ := any_law ho hq true
 obtain ⟨b, b1, b2, b3, b4, b5⟩ := any_law ho hq false
 have lpp : p.length = m.hours.toNat := (allP_mem (pathM ho hq)).1
 have lww : w.length = m.hours.toNat := (allP_mem (pathM ho w2)).1
 have lbb : b.length = m.hours.toNat := (allP_mem (pathM ho b2)).1
 have hdp := dut_duty ho lpp
 have hm4 : p.length ≤ 4 := by omega
 have hsw := ints_sl w (by unfold maxL; omega)
 have hsb := ints_sl b (by unfold maxL; omega)
 have hpl := (allP_mem (pathM ho hq)).2
 have k62w := fun h => C62 (c := c14) hc14 rfl m ra fa oa ha (slN (intsE w)) w hA hsw h
 have k62b := fun h => C62 (c := c14) hc14 rfl m ra fa oa ha (slN (intsE b)) b hA hsb h
 rw [w2] at k62w
 rw [b2] at k62b
 have k60 := fun h => K60 (X := dX c14) rfl hA hp h
 have k60w := fun h => K60 (X := dX c14) rfl hA hsw h
 have k60b := fun h => K60 (X := dX c14) rfl hA hsb h
 have k61 := fun h => K61 (X := dX c14) rfl hA limit hsw h
 have br : ∀ x, pathB m x = true → breV m x = .tuple [.agg [.int .i64 (airS m x).1, .int .i64 (mostP m x)], .int .i64 0] := fun x hx => by unfold breV; rw [hb, hx]; rfl
 rw [br p hq] at k60
 rw [br w w2] at k60w
 rw [br b b2] at k60b
 have e3 : safeV m w limit = .tuple [.int .i64 (safeW (airS m w) limit), .int .i64 0] := by unfold safeV; rw [hb, w2, hli]; rfl
 rw [e3] at k61
 have hs3 : (safeW (airS m w) limit == 3) = decide (mostP m w ≤ limit) := by
  unfold safeW mostP
  cases decide ((airS m w).2 ≤ limit) with
  | true => rfl
  | false => cases decide ((airS m w).1 > limit) <;> rfl
 have hsee : ∀ h : Heap, h.get 0 = some (.rw 1 (intsE (dutC m.rooms.length p))) → SeeV h intC (.row 0 0 m.rooms.length) (dutC m.rooms.length p) := fun h hg => by
  have := SeeV.row (c := intC) (l := dutC m.rooms.length p) hg (by rw [dutC_len]; unfold maxL; omega)
  rw [dutC_len] at this
  exact this
 have ew : ordV m (dutC m.rooms.length p) true = .tuple [slN (intsE w), .int .i64 (mostP m w), .int .i64 0] := by unfold ordV; rw [hb, hdp, w1]; rfl
 have eb : ordV m (dutC m.rooms.length p) false = .tuple [slN (intsE b), .int .i64 (mostP m b), .int .i64 0] := by unfold ordV; rw [hb, hdp, b1]; rfl
 have ea : anyV m limit (dutC m.rooms.length p) = .tuple [.bool (decide (mostP m w ≤ limit)), .int .i64 0] := by
  unfold anyV ordM
  rw [hb, hdp, hli, w1]
  rfl
 have h45 := fun (h : Heap) (hg : h.get 0 = some (.rw 1 (intsE (dutC m.rooms.length p)))) => K45 (X := dX c14) rfl hA (hsee h hg)
 have h46 := fun (h : Heap) (hg : h.get 0 = some (.rw 1 (intsE (dutC m.rooms.length p)))) => K46 (X := dX c14) rfl hA (hsee h hg)
 have h47 := fun (h : Heap) (hg : h.get 0 = some (.rw 1 (intsE (dutC m.rooms.length p)))) => K47D (X := dX c14) rfl hA (hsee h hg) limit
 have h65w := fun (h : Heap) (hg : h.get 0 = some (.rw 1 (intsE (dutC m.rooms.length p)))) => K65D (X := dX c14) rfl hsw (hsee h hg)
 have h65b := fun (h : Heap) (hg : h.get 0 = some (.rw 1 (intsE (dutC m.rooms.length p)))) => K65D (X := dX c14) rfl hsb (hsee h hg)
 rw [ew] at h45
 rw [eb] at h46
 rw [ea] at h47
 rw [w3] at h65w
 rw [b3] at h65b
 have lv1 : lisV (.vslice [pa]) = some [p] := by simp only [lisV, lisL, hp, List.length_cons, List.length_nil]; rfl
 have lv2 : lisV (.vslice [slN (intsE w)]) = some [w] := by simp only [lisV, lisL, hsw, List.length_cons, List.length_nil]; rfl
 have lv3 : lisV (.vslice [slN (intsE b)]) = some [b] := by simp only [lisV, lisL, hsb, List.length_cons, List.length_nil]; rfl
 have k59a := fun h => C59 (c := c14) rfl _ _ _ _ lv1 lv2 h
 have k59b := fun h => C59 (c := c14) rfl _ _ _ _ lv1 lv3 h
 have ow := (slN_is (intsE w)).out
 have ob := (slN_is (intsE b)).out
 have cp := (slV_is hp).1.cells
 have tp := (slV_is hp).1.tup
 have cw := (slN_is (intsE w)).cells
 have tw := (slN_is (intsE w)).tup
 have cb := (slN_is (intsE b)).cells
 have tb := (slN_is (intsE b)).tup
 simp only [AV.cells] at cp cw cb
 simp only [isTuple] at tp tw tb
 have d1 : decide (mostP m p > mostP m w) = false := by simpa [btW] using w4
 have d2 : decide (mostP m p < mostP m b) = false := by simpa [btW] using b4
 have d3 : (mostP m p == mostP m w) = true → befG [p] [w] = false := fun e => w5 (by simpa using e)
 have d4 : (mostP m p != mostP m b) = false → befG [p] [b] = false := fun e => b5 (by simpa using e)
 have x1 : (mostP m w != mostP m w) = false := by simp
 have x2 : (mostP m b != mostP m b) = false := by simp
 have bne := bool_ne
 have lr := sl_len hA.r
 have HP := Lib.hid hp
 have HPL := Lib.hid hpl
 have HR4 := Lib.hid (show m.rooms.length ≤ 4 by omega)
 have HR1 := Lib.hid (show 0 < m.rooms.length by omega)
 have HM4 := Lib.hid hm4
 have H45 := Lib.hid h45
 have H46 := Lib.hid h46
 have H47 := Lib.hid h47
 have H65w := Lib.hid h65w
 have H65b := Lib.hid h65b
 have D3 := Lib.hid d3
 have D4 := Lib.hid d4
 clear v q gs hA hp hb hq hli ho hh hr3 w1 w2 w3 w4 w5 b1 b2 b3 b4 b5 lpp lww lbb hdp hm4 hsw hsb hpl br e3 hsee ew eb ea h45 h46 h47 h65w h65b lv1 lv2 lv3 d3 d4
 generalize slN (intsE w) = wv at *
 generalize slN (intsE b) = bv at *
 generalize safeW (airS m w) limit = sw at *
 refine ClR.walk (c := _) rfl Tryz.func14 rfl (by kernel_rfl) rfl isRet_fail ?_
 try simp only [entryEnv, Nat.reduceAdd, List.nil_append, List.cons_append, emptyHp]
 repeat' (first | (apply WO1.make24 (n := m.rooms.length); (focus (first | exact Z2 | exact Z1)); (focus (first | exact Z2 | exact Z1)); (focus (exact HR4.out)); simp only [pM, pN]) | refine go1 ?_ | (apply U6; exact Z1; exact Z1; (focus (simp only [List.nil_append, List.append_nil]; first | exact k21 _ | exact k24 _ | exact k62 _ | exact k50 _)); simp only [pM, pN, rR, rP]) | refine go2 (fun hh => ?_) (fun hh => ?_) | fail)
 refine W.loopV (p.length) [1, 2, 3, 7] [3] (fun k e lm hp => e.get 8 = some (.int .i64 ↑k) ∧ hp.get 0 = some (.rw 1 (intsE (dutC m.rooms.length (p.take k)))) ∧ hp.next = 1) ?_ ?_
 ·skip
  refine ⟨?_, ?_, ?_⟩
  all_goals first | exact Z2 | (simp [go_sem, *]; done) | skip
  ·rw [List.take_zero, dutC_nil, ← rep_ints]
   first | rfl | (simp only [go_sem, *, Nat.reduceLT, Int.reduceEq, Int.reduceBEq, Int.reduceLE, Int.reduceLT, Nat.reduceAdd, Nat.reduceBEq, Nat.reduceEqDiff, reduceIte, Nat.reduceLeDiff, Nat.reduceMul, Nat.reduceSub, reduceCtorEq]; rfl)
 intro k e lm hp hk0 hce hcl hinv
 simp only [keepE, and_true] at hce
 obtain ⟨c1, c2, c3, c7⟩ := hce
 simp only [go_sem, *, Nat.reduceLT, Int.reduceEq, Int.reduceBEq, Int.reduceLE, Int.reduceLT, Nat.reduceAdd, Nat.reduceBEq, Nat.reduceEqDiff, reduceIte, Nat.reduceLeDiff, Nat.reduceMul, Nat.reduceSub, reduceCtorEq] at c1 c2 c3 c7
 simp only [keepL, and_true] at hcl
 have d3 := hcl
 clear hcl
 simp only [go_sem, *, Nat.reduceLT, Int.reduceEq, Int.reduceBEq, Int.reduceLE, Int.reduceLT, Nat.reduceAdd, Nat.reduceBEq, Nat.reduceEqDiff, reduceIte, Nat.reduceLeDiff, Nat.reduceMul, Nat.reduceSub, reduceCtorEq] at d3
 obtain ⟨h8, hA1, hA2⟩ := hinv
 by_cases hlt : k < p.length
 ·have hd0 : decide ((k : Int) < ((p.length : Nat) : Int)) = true := by first | (simpa using hlt; done) | (simp only [decide_eq_true_eq]; omega)
  have hv_0 := wrap_succ hlt (by have := HM4.out; unfold maxL; omega)
  obtain ⟨r, hr⟩ := get_some hlt
  have hixp := fun H => ints_idx HP.out hr H
  have hr0 := HPL.out r (List.mem_of_getElem? hr)
  have htk := take_next hr
  have HR0 := Lib.hid hr0
  have HTK := Lib.hid htk
  have HA2 := Lib.hid hA2
  have HLT0 := Lib.hid hlt
  clear hr hr0 htk hA2 hlt
  clear k21 k22 k24 k62 k62w k62b k50 k60 k60w k60b k61 k59a k59b
  by_cases hneg : r < 0
  ·have dr : decide (r ≥ 0) = false := by simp only [decide_eq_false_iff_not]; omega
   have hnx := dutC_neg (R := m.rooms.length) (p.take k) hneg
   have HNX := Lib.hid hnx
   have HA1 := Lib.hid hA1
   clear hnx hA1 hneg
   repeat' (first | (apply W.drawQ (id := 8) (l1 := [0, 1, 2, 3, 4, 5, 6, 7, 8, 9, 10, 11, 12, 13]) (l2 := [14]); kernel_rfl; kernel_rfl; kernel_rfl; exact Z4) | refine go1 ?_ | refine go2 (fun hh => ?_) (fun hh => ?_) | fail)
   all_goals refine contV_mk (by first | assumption | exact HLT0.out | exact HLT0.out) (by simp only [keepE, and_true, and_self, go_sem, *, Nat.reduceLT, Int.reduceEq, Int.reduceBEq, Int.reduceLE, Int.reduceLT, Nat.reduceAdd, Nat.reduceBEq, Nat.reduceEqDiff, reduceIte, Nat.reduceLeDiff, Nat.reduceMul, Nat.reduceSub, reduceCtorEq]) (by simp only [keepL, and_true, and_self, go_sem, *, Nat.reduceLT, Int.reduceEq, Int.reduceBEq, Int.reduceLE, Int.reduceLT, Nat.reduceAdd, Nat.reduceBEq, Nat.reduceEqDiff, reduceIte, Nat.reduceLeDiff, Nat.reduceMul, Nat.reduceSub, reduceCtorEq]) ?_
   all_goals refine ⟨?_, ?_, HA2.out⟩
   all_goals first | exact Z2 | skip
   rw [HTK.out, HNX.out]
   exact HA1.out
  ·obtain ⟨rn, rfl⟩ : ∃ rn : Nat, r = rn := ⟨r.toNat, by omega⟩
   have hrn : rn < m.rooms.length := by have := HR0.out; omega
   have dr : decide ((rn : Int) ≥ 0) = true := by simp
   have hnx := dutC_pos (p.take k) hrn
   have hgo := ints_get (l := dutC m.rooms.length (p.take k)) (j := rn) (by rw [dutC_len]; exact hrn)
   have hix := row_idx (n := m.rooms.length) hA1 hrn
   have hcb : 0 ≤ (dutC m.rooms.length (p.take k)).getD rn 0 ∧ (dutC m.rooms.length (p.take k)).getD rn 0 ≤ 1000 := by
    have h1 : (dutC m.rooms.length (p.take k)).getD rn 0 = ((((p.take k).count (rn : Int) : Nat)) : Int) := by simp [List.getD, dutC_get _ hrn]
    have := List.count_le_length (a := (rn : Int)) (l := p.take k)
    rw [List.length_take] at this
    have := HM4.out
    omega
   have hw : IntKind.i64.wrap ((dutC m.rooms.length (p.take k)).getD rn 0 + 1) = (dutC m.rooms.length (p.take k)).getD rn 0 + 1 := w64_small (by omega) (by omega)
   have hset := ints_set (dutC m.rooms.length (p.take k)) rn
   have HNX := Lib.hid hnx
   have HSET := Lib.hid hset
   clear hnx hcb hset hneg hrn
   generalize hcu : dutC m.rooms.length (p.take k) = cu at *
   generalize hoo : cu.getD rn 0 = o at *
   have HCU := Lib.hid hcu
   have HOO := Lib.hid hoo
   clear hcu hoo
   obtain ⟨hn1, hm1⟩ := hp
   simp only [hp_get] at hA1
   repeat' (first | (apply W.drawQ (id := 8) (l1 := [0, 1, 2, 3, 4, 5, 6, 7, 8, 9, 10, 11, 12, 13]) (l2 := [14]); kernel_rfl; kernel_rfl; kernel_rfl; exact Z4) | (apply U5; exact rfl; (focus (intro cl rd; simp only [go_sem, *, Nat.reduceLT, Int.reduceEq, Int.reduceBEq, Int.reduceLE, Int.reduceLT, Nat.reduceAdd, Nat.reduceBEq, Nat.reduceEqDiff, reduceIte, Nat.reduceLeDiff, Nat.reduceMul, Nat.reduceSub, reduceCtorEq, efV, Fr.storeE, AV.cells, isTuple, write_eptr, splice, asElem, isAggV]; with_reducible rfl)); simp only [pM, pN]) | refine go1 ?_ | refine go2 (fun hh => ?_) (fun hh => ?_) | fail)
   all_goals refine contV_mk (by first | assumption | exact HLT0.out | exact HLT0.out) (by simp only [keepE, and_true, and_self, go_sem, *, Nat.reduceLT, Int.reduceEq, Int.reduceBEq, Int.reduceLE, Int.reduceLT, Nat.reduceAdd, Nat.reduceBEq, Nat.reduceEqDiff, reduceIte, Nat.reduceLeDiff, Nat.reduceMul, Nat.reduceSub, reduceCtorEq]) (by simp only [keepL, and_true, and_self, go_sem, *, Nat.reduceLT, Int.reduceEq, Int.reduceBEq, Int.reduceLE, Int.reduceLT, Nat.reduceAdd, Nat.reduceBEq, Nat.reduceEqDiff, reduceIte, Nat.reduceLeDiff, Nat.reduceMul, Nat.reduceSub, reduceCtorEq]) ?_
   all_goals refine ⟨?_, ?_, HA2.out⟩
   all_goals first | exact Z2 | skip
   rw [HTK.out, HNX.out, ← HSET.out]
   simp only [hp_get, get_set_same]
 ·have hd0 : decide ((k : Int) < ((p.length : Nat) : Int)) = false := by first | (simpa using hlt; done) | (simp only [decide_eq_false_iff_not]; omega)
  obtain rfl : k = p.length := by omega
  rw [List.take_length] at hA1
  have k45 := H45.out hp hA1
  have k46 := H46.out hp hA1
  have k47 := H47.out hp hA1
  have k65w := H65w.out hp hA1
  have k65b := H65b.out hp hA1
  clear hA1 hA2 hlt
  generalize decide (mostP m w ≤ limit) = sb at *
  have bself : (sb != sb) = false := by cases sb <;> rfl
  cases u1 : (mostP m p == mostP m w) with
  | true =>
   have d5 := D3.out u1
   rw [d5] at k59a
   clear d5
   cases u2 : (mostP m p != mostP m b) with
   | true =>
    generalize mostP m p = pn at *
    generalize mostP m w = wn at *
    generalize mostP m b = bn at *
    repeat' (first | refine goS ?_ | (apply U6; exact Z1; exact Z1; (focus (simp only [List.nil_append, List.append_nil]; first | exact k45 | exact k46 | exact k47 | exact k60 _ | exact k60w _ | exact k60b _ | exact k61 _ | exact k62w _ | exact k62b _ | exact k65w | exact k65b | exact k59a _ | exact k22 _)); simp only [pM, pN, rR, rP]) | refine go2 (fun hh => ?_) (fun hh => ?_) | fail)
    all_goals (simp only [resV_def (X := dX c14) Tryz.func14, Tryz.results14]; first | exact J5 | refine J6 ?_)
    all_goals rfl
   | false =>
    have d6 := D4.out u2
    rw [d6] at k59b
    clear d6
    generalize mostP m p = pn at *
    generalize mostP m w = wn at *
    generalize mostP m b = bn at *
    repeat' (first | refine goS ?_ | (apply U6; exact Z1; exact Z1; (focus (simp only [List.nil_append, List.append_nil]; first | exact k45 | exact k46 | exact k47 | exact k60 _ | exact k60w _ | exact k60b _ | exact k61 _ | exact k62w _ | exact k62b _ | exact k65w | exact k65b | exact k59a _ | exact k59b _ | exact k22 _)); simp only [pM, pN, rR, rP]) | refine go2 (fun hh => ?_) (fun hh => ?_) | fail)
    all_goals (simp only [resV_def (X := dX c14) Tryz.func14, Tryz.results14]; first | exact J5 | refine J6 ?_)
    all_goals rfl
  | false =>
   cases u2 : (mostP m p != mostP m b) with
   | true =>
    generalize mostP m p = pn at *
    generalize mostP m w = wn at *
    generalize mostP m b = bn at *
    repeat' (first | refine goS ?_ | (apply U6; exact Z1; exact Z1; (focus (simp only [List.nil_append, List.append_nil]; first | exact k45 | exact k46 | exact k47 | exact k60 _ | exact k60w _ | exact k60b _ | exact k61 _ | exact k62w _ | exact k62b _ | exact k65w | exact k65b | exact k22 _)); simp only [pM, pN, rR, rP]) | refine go2 (fun hh => ?_) (fun hh => ?_) | fail)
    all_goals (simp only [resV_def (X := dX c14) Tryz.func14, Tryz.results14]; first | exact J5 | refine J6 ?_)
    all_goals rfl
   | false =>
    have d6 := D4.out u2
    rw [d6] at k59b
    clear d6
    generalize mostP m p = pn at *
    generalize mostP m w = wn at *
    generalize mostP m b = bn at *
    repeat' (first | refine goS ?_ | (apply U6; exact Z1; exact Z1; (focus (simp only [List.nil_append, List.append_nil]; first | exact k45 | exact k46 | exact k47 | exact k60 _ | exact k60w _ | exact k60b _ | exact k61 _ | exact k62w _ | exact k62b _ | exact k65w | exact k65b | exact k59b _ | exact k22 _)); simp only [pM, pN, rR, rP]) | refine go2 (fun hh => ?_) (fun hh => ?_) | fail)
    all_goals (simp only [resV_def (X := dX c14) Tryz.func14, Tryz.results14]; first | exact J5 | refine J6 ?_)
    all_goals rfl
end Go.AM
