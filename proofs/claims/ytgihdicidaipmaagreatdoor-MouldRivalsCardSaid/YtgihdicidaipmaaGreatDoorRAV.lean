/-
  A part of the proof: contracts of functions.
-/
import Derived.Test.YtgihdicidaipmaaGreatDoorRAN
import Derived.Test.YtgihdicidaipmaaGreatDoorRAU
import Derived.Test.YtgihdicidaipmaaGreatDoorRAP
import Derived.Test.YtgihdicidaipmaaGreatDoorRAF
import Derived.Test.YtgihdicidaipmaaGreatDoorRAO
set_option linter.unusedSectionVars false
set_option linter.unusedVariables false
set_option linter.unusedSimpArgs false
set_option maxRecDepth 100000
namespace Go.AM
open Go Go.Proofs
variable [Keep]
attribute [local irreducible] W WO WO1 WD WQ WT thenQ blockQ endR isRet retK Cl ClR
def lastD (l : List Int) (d : Int) : Int := l.getLast?.getD d
theorem gone_app (n : Nat) (x : Int) : ∀ (l : List Int) (d : Int), goneF n (l ++ [x]) d = (goneF n l d && inB x (lastD l d + 1) ((n : Int) - 1))
 | [], d => by simp [goneF, lastD]
 | y :: l, d => by
  rw [cJ, goneF, goneF, gone_app n x l y, Bool.and_assoc]
  congr 3
  unfold lastD
  cases l with
  | nil => rfl
  | cons z l => simp [List.getLast?_cons_cons, List.getLast?_cons]
theorem gone_pre (n : Nat) (r : List Int) : ∀ (l : List Int) (d : Int), goneF n l d = false -> goneF n (l ++ r) d = false
 | [], d, h => by cases h
 | y :: l, d, h => by
  rw [cJ]
  rw [goneF, Bool.and_eq_false_iff] at h ⊢
  exact h.imp id (gone_pre n r l y)
theorem gone_ge (n : Nat) : ∀ (l : List Int) (d : Int), -1 <= d -> goneF n l d = true -> -1 <= lastD l d
 | [], d, h, _ => h
 | y :: l, d, h, hg => by
  rw [goneF, Bool.and_eq_true] at hg
  obtain ⟨h1, h2⟩ := hg
  unfold inB at h1
  rw [Bool.and_eq_true, decide_eq_true_eq, decide_eq_true_eq] at h1
  have := gone_ge n l y (by omega) h2
  unfold lastD at *
  cases l with
  | nil => exact (by simpa using this)
  | cons z l => simpa [List.getLast?_cons_cons, List.getLast?_cons] using this
theorem last_take {l : List Int} {k : Nat} {y : Int} (h : l[k]? = some y) (d : Int) : lastD (l.take (k + 1)) d = y := by
 rw [take_next h]
 unfold lastD
 rw [List.getLast?_append]
 simp
theorem gone_zero {n : Nat} {l : List Int} {x : Int} (hx : l[0]? = some x) : goneB n (l.take 1) = inB x 0 ((n : Int) - 1) := by
 cases l with
 | nil => simp at hx
 | cons z l =>
  simp only [List.getElem?_cons_zero, Option.some.injEq] at hx
  subst hx
  unfold goneB
  simp [goneF]
theorem gone_next {n : Nat} {l : List Int} {k : Nat} {x y : Int} (hx : l[k + 1]? = some x) (hy : l[k]? = some y) (hg : goneB n (l.take (k + 1)) = true) : goneB n (l.take (k + 1 + 1)) = (inB x 0 ((n : Int) - 1) && !decide (x <= y)) := by
 unfold goneB at *
 rw [take_next hx, gone_app, hg, Bool.true_and, last_take hy]
 have := gone_ge n _ _ (by omega) hg
 rw [last_take hy] at this
 have hy0 : 0 <= y \/ y = -1 := by omega
 unfold inB
 rw [Bool.eq_iff_iff]
 simp only [Bool.and_eq_true, decide_eq_true_eq, Bool.not_eq_true', decide_eq_false_iff_not]
 omega
theorem gone_no {n : Nat} {l : List Int} {k : Nat} (h : goneB n (l.take k) = false) : goneB n l = false := by
 have := gone_pre n (l.drop k) _ _ h
 rw [List.take_append_drop] at this
 exact this
attribute [local irreducible] goneB
def sp49 : List AV -> Option AV
 | [a, ga] => (bkV a).bind fun b => (slV intC ga).map fun gone => .bool (goneB b.moulds.length gone)
 | _ => none
theorem p49 : ∀ args v, sp49 args = some v -> v.pur = true := by
 intro args v h
 unfold sp49 at h
 split at h
 ·rw [Option.bind_eq_some_iff] at h
  obtain ⟨b, _, h⟩ := h
  rw [Option.map_eq_some_iff] at h
  obtain ⟨g, _, rfl⟩ := h
  rfl
 ·cases h
section
variable {c : Itr}
set_option maxHeartbeats 4000000 in
theorem C49 (hc : c 49 = none) (h24 : c 24 = some (pureFn sp24)) (b : Bk) (sa : AV) (hb : bkV (.agg [.int .i64 b.miss, .int .i64 b.ghost, sa]) = some b) (hm : MdsV sa b.moulds) (ga : AV) (l : List Int) (hl : slV intC ga = some l) (h : Heap) :
  ClR (dX c) 49 [.agg [.int .i64 b.miss, .int .i64 b.ghost, sa], ga] h (isRet (.bool (goneB b.moulds.length l))) := by
 have os := hm.out
 have og := sl_out hl
 have lg := sl_len hl
 have mg := sl_max hl
 have k24 := fun n h => K24 (X := dX c) h24 hb n h
 have HL := J1 hl
 have h0 : goneB b.moulds.length (l.take 0) = true := by unfold goneB; rfl
 have H0 := J1 h0
 generalize hN : b.moulds.length = N at *
 have hnb : ∀ n, numB b.moulds n = inB n 0 ((N : Int) - 1) := fun n => by unfold numB; rw [hN]
 clear hl h0 hm hb hN
 refine wJ hc Tryz.func49 rfl isRet_fail ?_
 try simp only [entryEnv, Nat.reduceAdd, nJ, cJ, emptyHp]
 repeat' (first | refine goS ?_ | (refine go2 ?_ ?_ <;> intro hh) | fail)
 refine W.loopH (l.length) [1, 2] [2] (fun k e lm => e.get 5 = some (.int .i64 ↑k) /\ goneB N (l.take k) = true) ?_ ?_
 ·skip
  refine ⟨?_, H0.out⟩
  simp [go_sem, *]
 intro k e lm hk0 hce hcl hinv
 simp only [keepE, and_true] at hce
 obtain ⟨c1, c2⟩ := hce
 simp only [go_sem, *, Nat.reduceBEq, Nat.reduceEqDiff, reduceIte] at c1 c2
 simp only [keepL, and_true] at hcl
 have d2 := hcl
 clear hcl
 simp only [go_sem, *, Nat.reduceBEq, Nat.reduceEqDiff, reduceIte] at d2
 obtain ⟨h5, hal⟩ := hinv
 by_cases hlt : k < l.length
 ·have hd0 : decide ((k : Int) < ((l.length : Nat) : Int)) = true := by first | (simpa using hlt; done) | (simp only [decide_eq_true_eq]; omega)
  have hv_0 := wrap_succ hlt mg
  obtain ⟨x, hx⟩ := get_some hlt
  have hix := ints_idx HL.out hx
  have k24 := fun h => k24 x h
  rw [hnb] at k24
  have HX := J1 hx
  have HAL := J1 hal
  have HLT0 := J1 hlt
  have HNB := J1 hnb
  clear hx hal hlt hnb
  cases hin : inB x 0 ((N : Int) - 1) with
  | false =>
   have hno : goneB N l = false := by
    refine gone_no (k := k + 1) ?_
    cases k with
    | zero => rw [gone_zero HX.out, hin]
    | succ j =>
     obtain ⟨y, hy⟩ := get_some (l := l) (k := j) (by have := HLT0.out; omega)
     rw [gone_next HX.out hy HAL.out, hin, Bool.false_and]
   rw [hin] at k24
   rw [hno]
   clear hno
   repeat' (first | (refine WO1.gund rfl rfl ?_ ?_; exact Z2; simp only [pM, pN, rR, rP]) | (apply W.drawQ (id := 4) (l1 := [0, 1, 2, 3, 4, 5, 6, 7, 8, 9, 10, 11, 12, 13, 14, 15, 16, 17, 18, 19, 20, 21, 22]) (l2 := []); kernel_rfl; kernel_rfl; kernel_rfl; exact Z4) | refine go1 ?_ | (apply U6; exact Z1; exact Z1; (exact k24 _); simp only [pM, pN, rR, rP]) | (refine go2 ?_ ?_ <;> intro hh) | fail)
   all_goals (simp only [rV Tryz.func49, Tryz.results49]; first | exact J5 | refine J6 ?_)
  | true =>
   rw [hin] at k24
   cases k with
   | zero =>
    have hnx : goneB N (l.take (0 + 1)) = true := by rw [gone_zero HX.out, hin]
    have HNX := J1 hnx
    have hd0 : decide (((0 : Nat) : Int) > 0) = false := rfl
    clear hnx
    repeat' (first | (apply W.drawQ (id := 4) (l1 := [0, 1, 2, 3, 4, 5, 6, 7, 8, 9, 10, 11, 12, 13, 14, 15, 16, 17, 18, 19, 20, 21, 22]) (l2 := []); kernel_rfl; kernel_rfl; kernel_rfl; exact Z4) | refine go1 ?_ | (apply U6; exact Z1; exact Z1; (exact k24 _); simp only [pM, pN, rR, rP]) | (refine go2 ?_ ?_ <;> intro hh) | fail)
    all_goals refine contH_mk J9 J7 J8 ?_
    all_goals refine ⟨?_, ?_⟩
    all_goals first | exact Z2 | skip
    all_goals exact HNX.out
   | succ j =>
    obtain ⟨y, hy⟩ := get_some (l := l) (k := j) (by have := HLT0.out; omega)
    have hnx := gone_next HX.out hy HAL.out
    rw [hin, Bool.true_and] at hnx
    have hw1 : IntKind.i64.wrap (((j + 1 : Nat) : Int) - 1) = (j : Int) := by
     rw [wrap_small (by omega) (by have := HLT0.out; unfold maxL at mg; omega)]
     omega
    have hiy := ints_idx HL.out hy
    have hd0 : decide (((j + 1 : Nat) : Int) > 0) = true := by simp only [decide_eq_true_eq]; omega
    clear hy
    cases hxy : decide (x <= y) with
    | true =>
     have hno : goneB N l = false := gone_no (k := j + 1 + 1) (by rw [hnx, hxy]; rfl)
     rw [hno]
     clear hno hnx
     repeat' (first | (apply W.drawQ (id := 4) (l1 := [0, 1, 2, 3, 4, 5, 6, 7, 8, 9, 10, 11, 12, 13, 14, 15, 16, 17, 18, 19, 20, 21, 22]) (l2 := []); kernel_rfl; kernel_rfl; kernel_rfl; exact Z4) | refine go1 ?_ | (apply U6; exact Z1; exact Z1; (exact k24 _); simp only [pM, pN, rR, rP]) | (refine go2 ?_ ?_ <;> intro hh) | fail)
     all_goals (simp only [rV Tryz.func49, Tryz.results49]; first | exact J5 | refine J6 ?_)
    | false =>
     rw [hxy] at hnx
     have HNX := J1 hnx
     clear hnx
     repeat' (first | (apply W.drawQ (id := 4) (l1 := [0, 1, 2, 3, 4, 5, 6, 7, 8, 9, 10, 11, 12, 13, 14, 15, 16, 17, 18, 19, 20, 21, 22]) (l2 := []); kernel_rfl; kernel_rfl; kernel_rfl; exact Z4) | refine go1 ?_ | (apply U6; exact Z1; exact Z1; (exact k24 _); simp only [pM, pN, rR, rP]) | (refine go2 ?_ ?_ <;> intro hh) | fail)
     all_goals refine contH_mk J9 J7 J8 ?_
     all_goals refine ⟨?_, ?_⟩
     all_goals first | exact Z2 | skip
     all_goals exact HNX.out
 ·have hd0 : decide ((k : Int) < ((l.length : Nat) : Int)) = false := by first | (simpa using hlt; done) | (simp only [decide_eq_false_iff_not]; omega)
  obtain rfl : k = l.length := by omega
  rw [List.take_length] at hal
  rw [hal]
  clear hal
  repeat' (first | refine goS ?_ | (refine go2 ?_ ?_ <;> intro hh) | fail)
  all_goals (simp only [rV Tryz.func49, Tryz.results49]; first | exact J5 | refine J6 ?_)
end
noncomputable def cSD : Itr
 | 24 => some (pureFn sp24)
 | _ => none
theorem cSD_sound : Sound (dX cSD) := dX_sound (fun f g h => by
 unfold cSD at h
 split at h
 ·cases h; exact F24
 ·cases h)
theorem F49 : IntrFn Tryz.prog 49 (pureFn sp49) := by
 refine pure_fn (X := dX cSD) cSD_sound p49 ?_
 intro args v h
 unfold sp49 at h
 split at h
 ·rw [Option.bind_eq_some_iff] at h
  obtain ⟨b, hb, h⟩ := h
  rw [Option.map_eq_some_iff] at h
  obtain ⟨g, hg, rfl⟩ := h
  obtain ⟨sa, rfl, hm⟩ := bk_is hb
  exact C49 (c := cSD) rfl rfl b sa hb hm _ g hg _
 ·cases h
theorem K49 {X : Ctx} (hX : X.intr 49 = some (pureFn sp49)) {a ga : AV} {b : Bk} {g : List Int} (hb : bkV a = some b) (hg : slV intC ga = some g) (h : Heap) : Cl X 49 [a, ga] h (.ret (.bool (goneB b.moulds.length g)) h none) :=
 Cl.intr hX (by simp only [pureFn, AV.purL, AV.pur, bk_pur hb, sl_pur hg, Bool.and_self, if_true, sp49, hb, hg, Option.map_some, Option.bind_some])
theorem bfr_next {l r : List Int} {k : Nat} {x y : Int} (hx : l[k]? = some x) (hy : r[k]? = some y) : bfrB (l.drop k) (r.drop k) = if x = y then bfrB (l.drop (k + 1)) (r.drop (k + 1)) else decide (x < y) := by
 rw [List.drop_eq_getElem_cons (List.getElem?_eq_some_iff.1 hx).1, List.drop_eq_getElem_cons (List.getElem?_eq_some_iff.1 hy).1, bfrB, (List.getElem?_eq_some_iff.1 hx).2, (List.getElem?_eq_some_iff.1 hy).2]
theorem bfr_end {l r : List Int} : bfrB (l.drop (min l.length r.length)) (r.drop (min l.length r.length)) = decide ((l.length : Int) < r.length) := by
 by_cases h : l.length < r.length
 ·have e : min l.length r.length = l.length := by omega
  rw [e, List.drop_length]
  have : r.drop l.length ≠ [] := by intro h0; have := congrArg List.length h0; simp at this; omega
  cases hr : r.drop l.length with
  | nil => exact absurd hr this
  | cons y s =>
   unfold bfrB
   symm
   simp only [decide_eq_true_eq]
   omega
 ·have e : min l.length r.length = r.length := by omega
  rw [e, List.drop_length]
  have hd : decide ((l.length : Int) < r.length) = false := by simp only [decide_eq_false_iff_not]; omega
  rw [hd]
  cases l.drop r.length with
  | nil => rfl
  | cons x s => rfl
attribute [local irreducible] bfrB
def sp52 : List AV -> Option AV
 | [a, b] => (slV intC a).bind fun l => (slV intC b).map fun r => .bool (bfrB l r)
 | _ => none
theorem p52 : ∀ args v, sp52 args = some v -> v.pur = true := by
 intro args v h
 unfold sp52 at h
 split at h
 ·rw [Option.bind_eq_some_iff] at h
  obtain ⟨b, _, h⟩ := h
  rw [Option.map_eq_some_iff] at h
  obtain ⟨g, _, rfl⟩ := h
  rfl
 ·cases h
section
variable {c : Itr}
set_option maxHeartbeats 4000000 in
theorem C52 (hc : c 52 = none) (la ra : AV) (l r : List Int) (hl : slV intC la = some l) (hr : slV intC ra = some r) (h : Heap) : ClR (dX c) 52 [la, ra] h (isRet (.bool (bfrB l r))) := by
 have ol := sl_out hl
 have ll := sl_len hl
 have ml := sl_max hl
 have or := sl_out hr
 have lr := sl_len hr
 have mr := sl_max hr
 have HL := J1 hl
 have HR := J1 hr
 have h0 : bfrB (l.drop 0) (r.drop 0) = bfrB l r := rfl
 have H0 := J1 h0
 have hmin : min l.length r.length <= l.length := Nat.min_le_left _ _
 have hmin2 : min l.length r.length <= r.length := Nat.min_le_right _ _
 clear hl hr h0
 refine wJ hc Tryz.func52 rfl isRet_fail ?_
 try simp only [entryEnv, Nat.reduceAdd, nJ, cJ, emptyHp]
 repeat' (first | (apply W.drawQ (id := 4) (l1 := [0, 1, 2, 3, 4, 5, 6, 7, 8]) (l2 := []); kernel_rfl; kernel_rfl; kernel_rfl; exact Z4) | (apply W.drawQ (id := 5) (l1 := [0, 1, 2, 3, 4, 5, 6, 7, 8, 9]) (l2 := []); kernel_rfl; kernel_rfl; kernel_rfl; exact Z4) | refine go1 ?_ | (refine go2 ?_ ?_ <;> intro hh) | fail)
 refine W.loopH (min l.length r.length) [0, 1] [] (fun k e lm => e.get 5 = some (.int .i64 ↑k) /\ bfrB (l.drop k) (r.drop k) = bfrB l r) ?_ ?_
 ·skip
  refine ⟨?_, H0.out⟩
  simp [go_sem, *]
 intro k e lm hk0 hce hcl hinv
 simp only [keepE, and_true] at hce
 obtain ⟨c0, c1⟩ := hce
 simp only [go_sem, *, Nat.reduceBEq, Nat.reduceEqDiff, reduceIte] at c0 c1
 clear hcl
 obtain ⟨h5, hal⟩ := hinv
 by_cases hlt : k < min l.length r.length
 ·have hd0 : decide ((k : Int) < ((min l.length r.length : Nat) : Int)) = true := by first | (simpa using hlt; done) | (simp only [decide_eq_true_eq]; omega)
  have hv_0 := wrap_succ hlt (by omega)
  obtain ⟨x, hx⟩ := get_some (l := l) (k := k) (by omega)
  obtain ⟨y, hy⟩ := get_some (l := r) (k := k) (by omega)
  have hix := ints_idx HL.out hx
  have hiy := ints_idx HR.out hy
  have hnx := bfr_next hx hy
  rw [hal] at hnx
  have he1 : decide ((k : Int) < (l.length : Int)) = true := by simp only [decide_eq_true_eq]; omega
  have he2 : decide ((k : Int) < (r.length : Int)) = true := by simp only [decide_eq_true_eq]; omega
  have HLT0 := J1 hlt
  clear hx hy hal hlt
  by_cases hxy : x = y
  ·rw [if_pos hxy] at hnx
   subst hxy
   have hne : (x != x) = false := by simp
   have HNX := J1 hnx
   clear hnx
   repeat' (first | (apply W.drawQ (id := 4) (l1 := [0, 1, 2, 3, 4, 5, 6, 7, 8]) (l2 := []); kernel_rfl; kernel_rfl; kernel_rfl; exact Z4) | (apply W.drawQ (id := 5) (l1 := [0, 1, 2, 3, 4, 5, 6, 7, 8, 9]) (l2 := []); kernel_rfl; kernel_rfl; kernel_rfl; exact Z4) | refine go1 ?_ | (refine go2 ?_ ?_ <;> intro hh) | fail)
   all_goals refine contH_mk J9 J7 J8 ?_
   all_goals refine ⟨?_, ?_⟩
   all_goals first | exact Z2 | skip
   all_goals exact HNX.out.symm
  ·rw [if_neg hxy] at hnx
   have hne : (x != y) = true := by simpa using hxy
   rw [hnx]
   clear hnx hxy
   repeat' (first | (apply W.drawQ (id := 4) (l1 := [0, 1, 2, 3, 4, 5, 6, 7, 8]) (l2 := []); kernel_rfl; kernel_rfl; kernel_rfl; exact Z4) | (apply W.drawQ (id := 5) (l1 := [0, 1, 2, 3, 4, 5, 6, 7, 8, 9]) (l2 := []); kernel_rfl; kernel_rfl; kernel_rfl; exact Z4) | refine go1 ?_ | (refine go2 ?_ ?_ <;> intro hh) | fail)
   all_goals (simp only [rV Tryz.func52, Tryz.results52]; first | exact J5 | refine J6 ?_)
 ·have hd0 : decide ((k : Int) < ((min l.length r.length : Nat) : Int)) = false := by first | (simpa using hlt; done) | (simp only [decide_eq_false_iff_not]; omega)
  obtain rfl : k = min l.length r.length := by omega
  rw [bfr_end] at hal
  rw [<- hal]
  clear hal
  by_cases hq : l.length < r.length
  ·have e : min l.length r.length = l.length := by omega
   have he1 : decide ((↑(min l.length r.length) : Int) < (l.length : Int)) = false := by rw [e]; simp
   clear e hq
   repeat' (first | (apply W.drawQ (id := 4) (l1 := [0, 1, 2, 3, 4, 5, 6, 7, 8]) (l2 := []); kernel_rfl; kernel_rfl; kernel_rfl; exact Z4) | (apply W.drawQ (id := 5) (l1 := [0, 1, 2, 3, 4, 5, 6, 7, 8, 9]) (l2 := []); kernel_rfl; kernel_rfl; kernel_rfl; exact Z4) | refine go1 ?_ | (refine go2 ?_ ?_ <;> intro hh) | fail)
   all_goals (simp only [rV Tryz.func52, Tryz.results52]; first | exact J5 | refine J6 ?_)
  ·have e : min l.length r.length = r.length := by omega
   by_cases hq2 : r.length < l.length
   ·have he1 : decide ((↑(min l.length r.length) : Int) < (l.length : Int)) = true := by simp only [decide_eq_true_eq]; omega
    have he2 : decide ((↑(min l.length r.length) : Int) < (r.length : Int)) = false := by rw [e]; simp
    clear e hq hq2
    repeat' (first | (apply W.drawQ (id := 4) (l1 := [0, 1, 2, 3, 4, 5, 6, 7, 8]) (l2 := []); kernel_rfl; kernel_rfl; kernel_rfl; exact Z4) | (apply W.drawQ (id := 5) (l1 := [0, 1, 2, 3, 4, 5, 6, 7, 8, 9]) (l2 := []); kernel_rfl; kernel_rfl; kernel_rfl; exact Z4) | refine go1 ?_ | (refine go2 ?_ ?_ <;> intro hh) | fail)
    all_goals (simp only [rV Tryz.func52, Tryz.results52]; first | exact J5 | refine J6 ?_)
   ·have he1 : decide ((↑(min l.length r.length) : Int) < (l.length : Int)) = false := by simp only [decide_eq_false_iff_not]; omega
    clear e hq hq2
    repeat' (first | (apply W.drawQ (id := 4) (l1 := [0, 1, 2, 3, 4, 5, 6, 7, 8]) (l2 := []); kernel_rfl; kernel_rfl; kernel_rfl; exact Z4) | (apply W.drawQ (id := 5) (l1 := [0, 1, 2, 3, 4, 5, 6, 7, 8, 9]) (l2 := []); kernel_rfl; kernel_rfl; kernel_rfl; exact Z4) | refine go1 ?_ | (refine go2 ?_ ?_ <;> intro hh) | fail)
    all_goals (simp only [rV Tryz.func52, Tryz.results52]; first | exact J5 | refine J6 ?_)
end
theorem F52 : IntrFn Tryz.prog 52 (pureFn sp52) := by
 refine pure_fn (X := dX i0) i0_sound p52 ?_
 intro args v h
 unfold sp52 at h
 split at h
 ·rw [Option.bind_eq_some_iff] at h
  obtain ⟨l, hl, h⟩ := h
  rw [Option.map_eq_some_iff] at h
  obtain ⟨r, hr, rfl⟩ := h
  exact C52 (c := i0) rfl _ _ l r hl hr _
 ·cases h
theorem K52 {X : Ctx} (hX : X.intr 52 = some (pureFn sp52)) {a b : AV} {l r : List Int} (hl : slV intC a = some l) (hr : slV intC b = some r) (h : Heap) : Cl X 52 [a, b] h (.ret (.bool (bfrB l r)) h none) :=
 Cl.intr hX (by simp only [pureFn, AV.purL, AV.pur, sl_pur hl, sl_pur hr, Bool.and_self, if_true, sp52, hl, hr, Option.map_some, Option.bind_some])
def shortM (d : Md) : Bool := !(decide ((d.marks.length : Int) > 6) || decide ((d.loans.length : Int) > 5))
def shortB (b : Bk) : Bool := (b.moulds.take 8).all shortM && decide ((b.moulds.length : Int) <= 7)
theorem all_at {α : Type} {p : α -> Bool} {l : List α} {k : Nat} {x : α} (h : l[k]? = some x) (ha : (l.take k).all p = true) : (l.take (k + 1)).all p = p x := by rw [take_next h, List.all_append, ha]; simp
theorem short_no {b : Bk} {k : Nat} {d : Md} (hd : b.moulds[k]? = some d) (hk : k < 8) (h : shortM d = false) : shortB b = false := by
 unfold shortB
 have : (b.moulds.take 8).all shortM = false := by
  rw [List.all_eq_false]
  exact ⟨d, List.mem_of_getElem? (i := k) (by rw [List.getElem?_take, if_pos hk]; exact hd), by rw [h]; decide⟩
 rw [this, Bool.false_and]
section
variable {c : Itr}
end
end Go.AM
namespace Go.AM
open Go Go.Proofs
variable [Keep]
attribute [local irreducible] W WO WO1 WD WQ WT thenQ blockQ endR isRet retK Cl ClR
def MdsI (sa : AV) (l : List Md) : Prop := ∃ es : List AV, isSl sa es /\ es.length = l.length /\ ∀ (k : Nat) (d : Md), l[k]? = some d -> ∃ ma la, es[k]? = some (.agg [.int .i64 d.parent, .int .i64 d.clo, .int .i64 d.chi, ma, la]) /\ isSl ma (d.marks.map mkC.enc) /\ isSl la (d.loans.map lnC.enc)
theorem MdsI.out {sa : AV} {l : List Md} (q : MdsI sa l) : outV (some sa) = some sa := by
 obtain ⟨es, h1, _⟩ := q
 exact h1.out
theorem MdsI.len {sa : AV} {l : List Md} (q : MdsI sa l) : lenS sa = some l.length := by
 obtain ⟨es, h1, h2, _⟩ := q
 rw [h1.len, h2]
theorem MdsI.elem {sa : AV} {l : List Md} (q : MdsI sa l) {k : Nat} {d : Md} (hd : l[k]? = some d) : ∃ ma la, isSl ma (d.marks.map mkC.enc) /\ isSl la (d.loans.map lnC.enc) /\ ∀ H, indexAddrV Tryz.prog H 22 sa (.int .i64 (k : Int)) = some (.vptr [.int .i64 d.parent, .int .i64 d.clo, .int .i64 d.chi, ma, la]) := by
 obtain ⟨es, h1, h2, h3⟩ := q
 obtain ⟨ma, la, h4, h5, h6⟩ := h3 k d hd
 have e1 := h5.cells
 have e2 := h6.cells
 exact ⟨ma, la, h5, h6, fun H => h1.idx (P := Tryz.prog) (hp := H) (t := 22) (k := k) Tryz.underlying22 ty_lay76 h4 rfl⟩
theorem mm_of : ∀ (es : List AV) (l : List Md), es.length = l.length -> (∀ (k : Nat) (d : Md), l[k]? = some d -> ∃ ma la, es[k]? = some (.agg [.int .i64 d.parent, .int .i64 d.clo, .int .i64 d.chi, ma, la]) /\ slV mkC ma = some d.marks /\ slV lnC la = some d.loans) ->
  ∃ q : List MM, es = q.map mmC.enc /\ q.all MM.ok = true /\ q.map MM.md = l
 | [], [], _, _ => ⟨[], rfl, rfl, rfl⟩
 | [], _ :: _, h, _ => by simp at h
 | _ :: _, [], h, _ => by simp at h
 | e :: es, d :: l, h, hi => by
  obtain ⟨ma, la, h1, h2, h3⟩ := hi 0 d rfl
  simp only [List.getElem?_cons_zero, Option.some.injEq] at h1
  subst h1
  obtain ⟨q, e1, e2, e3⟩ := mm_of es l (by simpa using h) fun k x hx => by
   have := hi (k + 1) x (by simpa using hx)
   simpa using this
  have hok : (MM.mk d.parent d.clo d.chi ma la ⟨sl_pur h2, sl_pur h3⟩).ok = true := by unfold MM.ok; rw [h2, h3]; rfl
  have hmd : (MM.mk d.parent d.clo d.chi ma la ⟨sl_pur h2, sl_pur h3⟩).md = d := by unfold MM.md; rw [h2, h3]; rfl
  refine ⟨⟨d.parent, d.clo, d.chi, ma, la, sl_pur h2, sl_pur h3⟩ :: q, by rw [e1]; rfl, ?_, ?_⟩
  ·rw [List.all_cons, hok, e2]; rfl
  ·rw [List.map_cons, hmd, e3]
theorem short_parts {b : Bk} (h : shortB b = true) : b.moulds.length <= 7 /\ ∀ (k : Nat) (d : Md), b.moulds[k]? = some d -> d.marks.length <= 6 /\ d.loans.length <= 5 := by
 unfold shortB at h
 rw [Bool.and_eq_true, decide_eq_true_eq, List.all_eq_true] at h
 obtain ⟨h1, h2⟩ := h
 have hl : b.moulds.length <= 7 := by omega
 refine ⟨hl, fun k d hd => ?_⟩
 rw [List.take_of_length_le (by omega)] at h1
 have := h1 d (List.mem_of_getElem? hd)
 unfold shortM at this
 simp only [Bool.not_eq_true', Bool.or_eq_false_iff, decide_eq_false_iff_not] at this
 omega
theorem short_bk {b : Bk} {sa : AV} (q : MdsI sa b.moulds) (h : shortB b = true) : bkV (.agg [.int .i64 b.miss, .int .i64 b.ghost, sa]) = some b := by
 obtain ⟨h1, h2⟩ := short_parts h
 obtain ⟨es, q1, q2, q3⟩ := q
 obtain ⟨l, e1, e2, e3⟩ := mm_of es b.moulds q2 fun k d hd => by
  obtain ⟨ma, la, g1, g2, g3⟩ := q3 k d hd
  have := h2 k d hd
  exact ⟨ma, la, g1, slV_mk g2 (by unfold maxL; omega), slV_mk g3 (by unfold maxL; omega)⟩
 have hs : slV mmC sa = some l := slV_mk (by rw [<- e1]; exact q1) (by rw [<- List.length_map (f := mmC.enc), <- e1, q2]; unfold maxL; omega)
 simp only [bkV, hs, e2, if_true, e3]
section
variable {c : Itr}
set_option maxHeartbeats 4000000 in
theorem C20I (hc : c 20 = none) (b : Bk) (sa : AV) (hm : MdsI sa b.moulds) (h : Heap) :
  Cl (dX c) 20 [.agg [.int .i64 b.miss, .int .i64 b.ghost, sa]] h (.ret (.bool (shortB b)) h none) := by
 refine ClR.cl ?_
 have os := hm.out
 have hlen := hm.len
 have HM := J1 hm
 have hmin : min b.moulds.length 8 <= 8 := Nat.min_le_right _ _
 have hmin2 : min b.moulds.length 8 <= b.moulds.length := Nat.min_le_left _ _
 clear hm
 refine wJ hc Tryz.func20 rfl (fun e => by cases e) ?_
 try simp only [entryEnv, Nat.reduceAdd, nJ, cJ, emptyHp]
 repeat' (first | refine goS ?_ | (refine go2 ?_ ?_ <;> intro hh) | fail)
 refine W.loopH (min b.moulds.length 8) [1] [1] (fun k e lm => e.get 3 = some (.int .i64 ↑k) /\ (b.moulds.take k).all shortM = true) ?_ ?_
 ·refine ⟨?_, ?_⟩ <;> first | exact Z2 | rfl | assumption | (simp [go_sem, *]; done)
 intro k e lm hk0 hce hcl hinv
 simp only [keepE, and_true] at hce
 have c1 := hce
 clear hce
 simp only [go_sem, *, Nat.reduceBEq, Nat.reduceEqDiff, reduceIte] at c1
 simp only [keepL, and_true] at hcl
 have d1 := hcl
 clear hcl
 simp only [go_sem, *, Nat.reduceBEq, Nat.reduceEqDiff, reduceIte] at d1
 obtain ⟨h3, hal⟩ := hinv
 by_cases hlt : k < min b.moulds.length 8
 ·have hd0 : decide ((k : Int) < ((min b.moulds.length 8 : Nat) : Int)) = true := by first | (simpa using hlt; done) | (simp only [decide_eq_true_eq]; omega)
  have hv_0 := wrap_succ hlt (by unfold maxL; omega)
  obtain ⟨d, hd⟩ := get_some (l := b.moulds) (k := k) (by omega)
  obtain ⟨ma, la, v1, v2, hix⟩ := HM.out.elem hd
  have om := v1.out
  have ol := v2.out
  have lm := v1.len
  rw [List.length_map] at lm
  have ll := v2.len
  rw [List.length_map] at ll
  have hnx := all_at hd hal
  have he1 : decide ((k : Int) < (b.moulds.length : Int)) = true := by simp only [decide_eq_true_eq]; omega
  have he2 : decide ((k : Int) < 8) = true := by simp only [decide_eq_true_eq]; omega
  have hk8 : k < 8 := by omega
  have HNX := J1 hnx
  have HD := J1 hd
  have HLT0 := J1 hlt
  have HK8 := J1 hk8
  have hsm : shortM d = !(decide ((d.marks.length : Int) > 6) || decide ((d.loans.length : Int) > 5)) := rfl
  clear v1 v2 hd hnx hal hk8 hlt
  cases h1 : decide ((d.marks.length : Int) > 6) with
  | true =>
   rw [h1] at hsm
   have hno := short_no HD.out HK8.out hsm
   rw [hno]
   clear hno hsm
   repeat' (first | refine goS ?_ | (refine go2 ?_ ?_ <;> intro hh) | fail)
   all_goals (simp only [rV Tryz.func20, Tryz.results20]; first | exact J5 | refine J6 ?_)
   all_goals rfl
  | false =>
   cases h2 : decide ((d.loans.length : Int) > 5) with
   | true =>
    rw [h1, h2] at hsm
    have hno := short_no HD.out HK8.out hsm
    rw [hno]
    clear hno hsm
    repeat' (first | refine goS ?_ | (refine go2 ?_ ?_ <;> intro hh) | fail)
    all_goals (simp only [rV Tryz.func20, Tryz.results20]; first | exact J5 | refine J6 ?_)
    all_goals rfl
   | false =>
    rw [h1, h2] at hsm
    have HS := J1 hsm
    clear hsm
    repeat' (first | refine goS ?_ | (refine go2 ?_ ?_ <;> intro hh) | fail)
    all_goals refine contH_mk J9 J7 J8 ?_
    all_goals refine ⟨?_, ?_⟩
    all_goals first | exact Z2 | skip
    all_goals exact HNX.out.trans HS.out
 ·have hd0 : decide ((k : Int) < ((min b.moulds.length 8 : Nat) : Int)) = false := by first | (simpa using hlt; done) | (simp only [decide_eq_false_iff_not]; omega)
  obtain rfl : k = min b.moulds.length 8 := by omega
  have hS : shortB b = decide ((b.moulds.length : Int) <= 7) := by
   unfold shortB
   by_cases h8 : b.moulds.length <= 8
   ·have e1 : b.moulds.take (min b.moulds.length 8) = b.moulds := List.take_of_length_le (by omega)
    rw [e1] at hal
    rw [List.take_of_length_le h8, hal, Bool.true_and]
   ·have e1 : min b.moulds.length 8 = 8 := by omega
    rw [e1] at hal
    rw [hal, Bool.true_and]
  rw [hS]
  clear hal hS
  by_cases h8 : b.moulds.length <= 8
  ·have e1 : min b.moulds.length 8 = b.moulds.length := by omega
   have he1 : decide ((↑(min b.moulds.length 8) : Int) < (b.moulds.length : Int)) = false := by rw [e1]; simp
   clear e1
   repeat' (first | refine goS ?_ | (refine go2 ?_ ?_ <;> intro hh) | fail)
   all_goals (simp only [rV Tryz.func20, Tryz.results20]; first | exact J5 | refine J6 ?_)
   all_goals rfl
  ·have e1 : min b.moulds.length 8 = 8 := by omega
   have he1 : decide ((↑(min b.moulds.length 8) : Int) < (b.moulds.length : Int)) = true := by simp only [decide_eq_true_eq]; omega
   have he2 : decide ((↑(min b.moulds.length 8) : Int) < 8) = false := by simp only [decide_eq_false_iff_not]; omega
   clear e1
   repeat' (first | refine goS ?_ | (refine go2 ?_ ?_ <;> intro hh) | fail)
   all_goals (simp only [rV Tryz.func20, Tryz.results20]; first | exact J5 | refine J6 ?_)
   all_goals rfl
end
end Go.AM
namespace Go.AM
open Go Go.Proofs
variable [Keep]
theorem ClR.gives {X : Ctx} {f : FuncId} {args : List AV} {h : Heap} {v : AV} (c : ClR X f args h (isRet v)) : ∃ h', Cl X f args h (.ret v h' none) := by
 unfold ClR at c
 obtain ⟨r, ⟨n, hn⟩, q⟩ := c
 cases r with
 | ret u h' up =>
  cases up with
  | none => rw [isRet_ret] at q; subst q; exact ⟨h', n, hn⟩
  | some p => exact absurd q (by simp [isRet])
 | pan u h' up => exact absurd q (by simp [isRet])
 | fail => exact absurd q (by simp [isRet])
theorem Sh.i64 {n : Nat} {xs : List AV} (h : Sh Tryz.prog (n + 1) 3 xs) : ∃ i, xs = [.int .i64 i] := by
 obtain ⟨i, h, _⟩ := Sh.int Tryz.underlying3 h
 exact ⟨i, h⟩
theorem ag3 : isAggT Tryz.prog 3 = false := by simp [isAggT, Tryz.underlying3]
theorem ag36 : isAggT Tryz.prog 36 = false := by simp [isAggT, Tryz.underlying36]
theorem ag24 : isAggT Tryz.prog 24 = true := by simp [isAggT, Tryz.underlying24]
theorem ag76 : isAggT Tryz.prog 76 = true := by simp [isAggT, Tryz.underlying76]
theorem ag100 : isAggT Tryz.prog 100 = true := by simp [isAggT, Tryz.underlying100]
theorem ag123 : isAggT Tryz.prog 123 = true := by simp [isAggT, Tryz.underlying123]
theorem Sh.ints {n : Nat} {xs : List AV} (h : Sh Tryz.prog (n + 2) 36 xs) : ∃ (a : AV) (l : List Int), xs = [a] /\ isSl a (l.map intC.enc) :=
 Sh.slice intC Tryz.underlying36 (fun xs h => by
  obtain ⟨i, rfl⟩ := Sh.i64 h
  exact ⟨i, by rw [ag3]; rfl⟩) h
theorem Sh.span {n : Nat} {xs : List AV} (h : Sh Tryz.prog (n + 2) 45 xs) : ∃ p q : Int, xs = [.int .i64 p, .int .i64 q] := by
 obtain ⟨x1, y1, rfl, h1, x2, y2, rfl, h2, rfl⟩ := Sh.struct Tryz.underlying45 h
 obtain ⟨a, rfl⟩ := Sh.i64 h1
 obtain ⟨b, rfl⟩ := Sh.i64 h2
 exact ⟨a, b, rfl⟩
theorem Sh.mk {n : Nat} {xs : List AV} (h : Sh Tryz.prog (n + 3) 123 xs) : ∃ p : Mk, xs = [.int .i64 p.spot, .int .i64 p.lo, .int .i64 p.hi] := by
 obtain ⟨x1, y1, rfl, h1, x2, y2, rfl, h2, rfl⟩ := Sh.struct Tryz.underlying123 h
 obtain ⟨a, rfl⟩ := Sh.i64 h1
 obtain ⟨p, q, rfl⟩ := Sh.span h2
 exact ⟨⟨a, p, q⟩, rfl⟩
theorem Sh.ln {n : Nat} {xs : List AV} (h : Sh Tryz.prog (n + 3) 100 xs) : ∃ p : Ln, xs = [.int .i64 p.house, .int .i64 p.slo, .int .i64 p.shi, .int .i64 p.flo, .int .i64 p.fhi] := by
 obtain ⟨x1, y1, rfl, h1, x2, y2, rfl, h2, x3, y3, rfl, h3, rfl⟩ := Sh.struct Tryz.underlying100 h
 obtain ⟨a, rfl⟩ := Sh.i64 h1
 obtain ⟨p, q, rfl⟩ := Sh.span h2
 obtain ⟨u, w, rfl⟩ := Sh.span h3
 exact ⟨⟨a, p, q, u, w⟩, rfl⟩
theorem Sh.mks {n : Nat} {xs : List AV} (h : Sh Tryz.prog (n + 4) 73 xs) : ∃ (a : AV) (l : List Mk), xs = [a] /\ isSl a (l.map mkC.enc) :=
 Sh.slice mkC Tryz.underlying73 (fun xs h => by
  obtain ⟨p, rfl⟩ := Sh.mk h
  exact ⟨p, by rw [ag123]; rfl⟩) h
theorem Sh.lns {n : Nat} {xs : List AV} (h : Sh Tryz.prog (n + 4) 74 xs) : ∃ (a : AV) (l : List Ln), xs = [a] /\ isSl a (l.map lnC.enc) :=
 Sh.slice lnC Tryz.underlying74 (fun xs h => by
  obtain ⟨p, rfl⟩ := Sh.ln h
  exact ⟨p, by rw [ag100]; rfl⟩) h
theorem Sh.md {n : Nat} {xs : List AV} (h : Sh Tryz.prog (n + 5) 76 xs) : ∃ (d : Md) (ma la : AV), xs = [.int .i64 d.parent, .int .i64 d.clo, .int .i64 d.chi, ma, la] /\ isSl ma (d.marks.map mkC.enc) /\ isSl la (d.loans.map lnC.enc) := by
 obtain ⟨x1, y1, rfl, h1, x2, y2, rfl, h2, x3, y3, rfl, h3, x4, y4, rfl, h4, rfl⟩ := Sh.struct Tryz.underlying76 h
 obtain ⟨a, rfl⟩ := Sh.i64 h1
 obtain ⟨p, q, rfl⟩ := Sh.span h2
 obtain ⟨ma, ms, rfl, q1⟩ := Sh.mks h3
 obtain ⟨la, ls, rfl, q2⟩ := Sh.lns h4
 exact ⟨⟨a, p, q, ms, ls⟩, ma, la, rfl, q1, q2⟩
theorem mdsI_of : ∀ (es : List AV), (∀ x ∈ es, ∃ (d : Md) (ma la : AV), x = .agg [.int .i64 d.parent, .int .i64 d.clo, .int .i64 d.chi, ma, la] /\ isSl ma (d.marks.map mkC.enc) /\ isSl la (d.loans.map lnC.enc)) ->
  ∃ l : List Md, es.length = l.length /\ ∀ (k : Nat) (d : Md), l[k]? = some d -> ∃ ma la, es[k]? = some (.agg [.int .i64 d.parent, .int .i64 d.clo, .int .i64 d.chi, ma, la]) /\ isSl ma (d.marks.map mkC.enc) /\ isSl la (d.loans.map lnC.enc)
 | [], _ => ⟨[], rfl, fun k d h => by simp at h⟩
 | x :: es, h => by
  obtain ⟨d0, ma, la, rfl, q1, q2⟩ := h x (by simp)
  obtain ⟨l, g1, g2⟩ := mdsI_of es fun y hy => h y (by simp [hy])
  refine ⟨d0 :: l, by simp [g1], fun k d hk => ?_⟩
  cases k with
  | zero => simp at hk; subst hk; exact ⟨ma, la, rfl, q1, q2⟩
  | succ k => simp at hk; simpa using g2 k d hk
theorem Sh.mds {n : Nat} {xs : List AV} (h : Sh Tryz.prog (n + 6) 22 xs) : ∃ (a : AV) (l : List Md), xs = [a] /\ MdsI a l := by
 unfold Sh at h
 rw [Tryz.underlying22] at h
 obtain ⟨a, es, rfl, h1, _, h3⟩ := h
 obtain ⟨l, g1, g2⟩ := mdsI_of es fun x hx => by
  obtain ⟨ys, k1, k2⟩ := h3 x hx
  obtain ⟨d, ma, la, rfl, q1, q2⟩ := Sh.md k2
  exact ⟨d, ma, la, by rw [k1, ag76]; rfl, q1, q2⟩
 exact ⟨a, l, rfl, es, h1, g1, g2⟩
theorem Sh.book {n : Nat} {xs : List AV} (h : Sh Tryz.prog (n + 7) 24 xs) : ∃ (sa : AV) (b : Bk), xs = [.int .i64 b.miss, .int .i64 b.ghost, sa] /\ MdsI sa b.moulds := by
 obtain ⟨x1, y1, rfl, h1, x2, y2, rfl, h2, x3, y3, rfl, h3, rfl⟩ := Sh.struct Tryz.underlying24 h
 obtain ⟨a, rfl⟩ := Sh.i64 h1
 obtain ⟨g, rfl⟩ := Sh.i64 h2
 obtain ⟨sa, l, rfl, q⟩ := Sh.mds h3
 exact ⟨sa, ⟨a, g, l⟩, rfl, q⟩
attribute [local irreducible] W WO WO1 WD WQ WT thenQ blockQ endR isRet retK Cl ClR
attribute [local irreducible] natsE
theorem rw_idx {H : Heap} {id k : Nat} {l : List AV} {x : AV} (hg : H.get id = some (.rw 1 l)) (hx : l[k]? = some x) : indexAddrV Tryz.prog H 36 (.row id 0 l.length) (.int .i64 ↑k) = some (.eptr id 1 k 0) :=
 row_idx (t := 36) (e := 3) Tryz.underlying36 ty_lay3 hg (List.getElem?_eq_some_iff.1 hx).1
theorem bltN_at {b : Nat} {h : Heap} {v : AV} {l : List AV} (q : BltN b h v 1 l) {k : Nat} {x : AV} (hx : l[k]? = some x) : ∃ id, v = .row id 0 l.length /\ h.get id = some (.rw 1 l) /\ b <= id /\ id < h.next := by
 refine q.row ?_
 rintro rfl
 simp at hx
theorem nats_at {l : List Nat} {k j : Nat} (h : l[k]? = some j) : (natsE l)[k]? = some (.int .i64 (j : Int)) := by
 unfold natsE
 rw [List.getElem?_map, h]
 rfl
theorem BltN.base {b b' : Nat} {h : Heap} {v : AV} {sz : Nat} {l : List AV} (q : BltN b h v sz l) (hb : b' <= b) : BltN b' h v sz l := by
 rcases q with q | ⟨id, h1, h2, h3, h4⟩
 ·exact .inl q
 ·exact .inr ⟨id, h1, h2, Nat.le_trans hb h3, h4⟩
section
variable {c : Itr}
set_option maxHeartbeats 4000000 in
theorem C144 (hc : c 144 = none) (mi gh : Int) (sa : AV) (l : List Md) (hm : MdsV sa l) (n : Nat) (wf : WfP l n) (hl : n <= l.length) (m : Int) (h1 : -1 <= m) (h3 : m < n) (h : Heap) :
  ClR (dX c) 144 [.agg [.int .i64 mi, .int .i64 gh, sa], .int .i64 m] h (rowR (natsE (chn l m)) h) := by
 have os := hm.out
 have hmx := hm.max
 have hch := chn_at wf hl h1 h3
 have HM := J1 hm
 have HCH := J1 hch
 have h0 : natsE ((chn l m).take 0) = [] := by unfold natsE; rfl
 have H0 := J1 h0
 have hc0 : curM l m 0 = m := by unfold curM; rfl
 have HC0 := J1 hc0
 have hln := hch.2.2
 have HLN := J1 hln
 have hkl : ∀ k, k < (chn l m).length -> (curM l m k).toNat < l.length := fun k hk => by
  have := hch.1 k hk
  omega
 have HKL := J1 hkl
 clear hm hch h0 hc0 hln hkl
 refine wJ hc Tryz.func144 rfl rowR_fail ?_
 try simp only [entryEnv, Nat.reduceAdd, nJ, cJ, emptyHp]
 repeat' (first | refine goS ?_ | (refine go2 ?_ ?_ <;> intro hh) | fail)
 refine W.loopV ((chn l m).length) [2] [2] (fun k e lm hp => ∃ u, e.get 6 = some (.int .i64 (curM l m k)) /\ e.get 5 = some (u) /\ BltN h.next hp u 1 (natsE ((chn l m).take k)) /\ HExt h hp) ?_ ?_
 ·skip
  refine ⟨.nilslice, ?_, ?_, ?_, HExt.refl _⟩
  ·rw [HC0.out]; simp [go_sem, *]
  ·simp [go_sem, *]
  ·rw [H0.out]; exact BltN.nil
 intro k e lm hp hk0 hce hcl hinv
 simp only [keepE, and_true] at hce
 have c2 := hce
 clear hce
 simp only [go_sem, *, Nat.reduceBEq, Nat.reduceEqDiff, reduceIte] at c2
 simp only [keepL, and_true] at hcl
 have d2 := hcl
 clear hcl
 simp only [go_sem, *, Nat.reduceBEq, Nat.reduceEqDiff, reduceIte] at d2
 obtain ⟨u, h6, h5, hB, hX⟩ := hinv
 by_cases hlt : k < (chn l m).length
 ·have hd0 : decide ((k : Int) < (((chn l m).length : Nat) : Int)) = true := by first | (simpa using hlt; done) | (simp only [decide_eq_true_eq]; omega)
  have hv_0 := wrap_succ hlt (by have := HLN.out; unfold maxL at *; omega)
  obtain ⟨q1, q2, q3, q4⟩ := HCH.out.1 k hlt
  have hkl := HKL.out k hlt
  obtain ⟨d, hdd⟩ := get_some (l := l) (k := (curM l m k).toNat) hkl
  obtain ⟨ma, la, v1, v2, hix⟩ := HM.out.elem _ _ hdd
  have hcn : ((curM l m k).toNat : Int) = curM l m k := by omega
  rw [hcn] at hix
  have hge : decide (curM l m k >= 0) = true := by simpa using q2
  have om := sl_out v1
  have ol := sl_out v2
  have hup : curM l m (k + 1) = d.parent := by
   rw [curM_succ]; unfold upM; rw [hdd]
  have hbo1 := hB.blt.out
  have hll : (natsE ((chn l m).take k)).length + 1 <= most := by
   rw [natsE_len, List.length_take]; have := HLN.out; unfold most; unfold maxL at hmx; omega
  have hnx : natsE ((chn l m).take (k + 1)) = natsE ((chn l m).take k) ++ [.int .i64 (curM l m k)] := by
   rw [take_next q1]
   unfold natsE
   rw [List.map_append]
   simp only [List.map_cons, List.map_nil, hcn]
  have HNX := J1 hnx
  have HUP := J1 hup
  have HLT0 := J1 hlt
  clear v1 v2 hdd q1 q2 q3 q4 hup hnx hlt hcn hkl
  generalize hcu : curM l m k = cu at *
  repeat' (first | (apply WO1.appendN (t := 36) (u := 36) (e := 3) (e' := 3) (sz := 1) (tl := []) (hb := hB) (hx := HExt.pair hX); exact Z1; exact rfl; exact Z2; exact Z2; exact Z2; (focus (exact ty_row36)); exact Z1; (focus (intro v hv; simp at hv; subst hv; first | rfl | exact hsc)); (focus (simp only [List.length_map, List.length_cons, List.length_nil]; exact hll)); (focus (simp)); (intro v' h' hB' ho' hX'; have hcc' := hB'.blt.cells; have htt' := hB'.blt.tup; simp only [AV.cells] at hcc'; simp only [isTuple] at htt'; simp only [pM, pN])) | refine go1 ?_ | (refine go2 ?_ ?_ <;> intro hh) | fail)
  all_goals refine contV_mk J9 J7 J8 ?_
  all_goals refine ⟨v', ?_, ?_, ?_, hX'⟩
  all_goals first | exact Z2 | skip
  ·rw [HUP.out]; simp only [go_sem, *, Nat.reduceLT, Int.reduceEq, Int.reduceBEq, Int.reduceLE, Int.reduceLT, Nat.reduceAdd, Nat.reduceBEq, Nat.reduceEqDiff, reduceIte, Nat.reduceLeDiff, Nat.reduceMul, Nat.reduceSub, reduceCtorEq]
  ·rw [HNX.out]; exact hB'
 ·have hd0 : decide ((k : Int) < (((chn l m).length : Nat) : Int)) = false := by first | (simpa using hlt; done) | (simp only [decide_eq_false_iff_not]; omega)
  obtain rfl : k = (chn l m).length := by omega
  have hlt0 := HCH.out.2.1
  have hge : decide (curM l m (chn l m).length >= 0) = false := by simp only [decide_eq_false_iff_not]; omega
  have hbo1 := hB.blt.out
  rw [List.take_length] at hB
  have HX := J1 hX
  have HB := J1 hB
  clear hB hX hlt0
  generalize hcu : curM l m (chn l m).length = cu at *
  repeat' (first | refine goS ?_ | (refine go2 ?_ ?_ <;> intro hh) | fail)
  all_goals (simp only [rV Tryz.func144, Tryz.results144]; first | exact J5 | refine J6 ?_)
  exact ⟨_, _, HX.out, rfl, HB.out⟩
def spotL (q : List (Nat × Mk)) : List AV := intsE (q.map fun jx => jx.2.spot)
theorem spotL_len (q : List (Nat × Mk)) : (spotL q).length = q.length := by unfold spotL; rw [intsE_len, List.length_map]
theorem spotL_app (q : List (Nat × Mk)) (j : Nat) (x : Mk) : spotL (q ++ [(j, x)]) = spotL q ++ [.int .i64 x.spot] := by
 unfold spotL
 rw [List.map_append, List.map_cons, List.map_nil, intsE_app]
attribute [local irreducible] spotL lineP lineQ lineM
set_option maxHeartbeats 8000000 in
theorem C109 (hc : c 109 = none) (hc2 : c 144 = none) (mi gh : Int) (sa : AV) (l : List Md) (hm : MdsV sa l) (n : Nat) (wf : WfP l n) (hl : n <= l.length) (m : Int) (h1 : -1 <= m) (h3 : m < n) (hb : (lineM l m).length <= 100000) (h : Heap) :
  ClR (dX c) 109 [.agg [.int .i64 mi, .int .i64 gh, sa], .int .i64 m] h (rowR (spotL (lineM l m)) h) := by
 have os := hm.out
 have hmx := hm.max
 have hch := chn_at wf hl h1 h3
 have HM := J1 hm
 have HCH := J1 hch
 have HBD := J1 hb
 have HLN := J1 hch.2.2
 have k144 := C144 hc2 mi gh sa l hm n wf hl m h1 h3 h
 unfold ClR at k144
 obtain ⟨r, k144, ⟨bn, bm⟩, lv, hx1, rfl, hb1⟩ := k144
 have lc := hb1.blt.cells
 have lt := hb1.blt.tup
 have lo := hb1.blt.out
 have ll := hb1.blt.len
 rw [natsE_len] at ll
 simp only [AV.cells] at lc
 simp only [isTuple] at lt
 have HB1 := J1 hb1
 have HX1 := J1 hx1
 have h0 : spotL (lineP l m 0) = [] := by unfold lineP spotL; rfl
 have H0 := J1 h0
 have hkl : ∀ k, k < (chn l m).length -> (curM l m k).toNat < l.length := fun k hk => by
  have := hch.1 k hk
  omega
 have HKL := J1 hkl
 clear hm hch h0 hb hkl hb1 hx1
 refine wJ hc Tryz.func109 rfl rowR_fail ?_
 try simp only [entryEnv, Nat.reduceAdd, nJ, cJ, emptyHp]
 repeat' (first | refine goS ?_ | (apply U6; exact Z1; exact Z1; (exact k144); simp only [pM, pN, rR, rP]) | (refine go2 ?_ ?_ <;> intro hh) | fail)
 refine W.loopV ((chn l m).length) [2, 6] [2] (fun k e lm hp => ∃ u, e.get 7 = some (.int .i64 ↑k) /\ e.get 5 = some (u) /\ BltN bn hp u 1 (spotL (lineP l m k)) /\ HExt ⟨bn, bm⟩ hp) ?_ ?_
 ·skip
  refine ⟨.nilslice, ?_, ?_, ?_, HExt.refl _⟩
  ·simp [go_sem, *]
  ·simp [go_sem, *]
  ·rw [H0.out]; exact BltN.nil
 intro k e lm hp hk0 hce hcl hinv
 simp only [keepE, and_true] at hce
 obtain ⟨c2, c6⟩ := hce
 simp only [go_sem, *, Nat.reduceBEq, Nat.reduceEqDiff, reduceIte] at c2 c6
 simp only [keepL, and_true] at hcl
 have d2 := hcl
 clear hcl
 simp only [go_sem, *, Nat.reduceBEq, Nat.reduceEqDiff, reduceIte] at d2
 obtain ⟨u, h7, h5, hB, hX⟩ := hinv
 by_cases hlt : k < (chn l m).length
 ·have hd0 : decide ((k : Int) < (((chn l m).length : Nat) : Int)) = true := by first | (simpa using hlt; done) | (simp only [decide_eq_true_eq]; omega)
  have hv_0 := wrap_succ hlt (by have := HLN.out; unfold maxL at *; omega)
  obtain ⟨q1, q2, q3, q4⟩ := HCH.out.1 k hlt
  have hkl := HKL.out k hlt
  obtain ⟨d, hdd⟩ := get_some (l := l) (k := (curM l m k).toNat) hkl
  obtain ⟨ma, la, v1, v2, hix⟩ := HM.out.elem _ _ hdd
  have hmk : marksA l (curM l m k).toNat = d.marks := by unfold marksA; rw [hdd]
  have hpre : ∀ i, lineQ l m k (curM l m k).toNat d.marks i <+: lineM l m := fun i => by rw [<- hmk]; exact lineQ_pre q1
  have hln : lineP l m (k + 1) = lineQ l m k (curM l m k).toNat d.marks d.marks.length := by
   rw [lineP_next q1, hmk]; unfold lineQ; rw [List.take_length]
  have hl0 : lineQ l m k (curM l m k).toNat d.marks 0 = lineP l m k := by unfold lineQ; simp
  rw [<- hl0] at hB
  obtain ⟨id, e1, e2, e3, e4⟩ := bltN_at HB1.out (nats_at q1)
  simp only at e4
  have hat := nats_at q1
  have hrl : (natsE (chn l m)).length = (chn l m).length := natsE_len _
  have hri := fun (H : Heap) (hg : H.get id = some (.rw 1 (natsE (chn l m)))) => rw_idx hg hat
  rw [<- e1] at hri
  have HRI := J1 hri
  have E2 := J1 e2
  have om := sl_out v1
  have ol := sl_out v2
  have lm0 := sl_len v1
  have mm := sl_max v1
  have HMI := J1 v1
  have HPRE := J1 hpre
  have HLN1 := J1 hln
  have HLT0 := J1 hlt
  clear v1 v2 hdd q1 q2 q3 q4 hmk hpre hln hl0 hlt e1 e2 hri hkl
  generalize hcu : (curM l m k).toNat = cu at *
  clear hcu
  have HB0 := J1 hB
  have HX0 := J1 hX
  have hlb := HBD.out
  clear hB hX
  repeat' (first | refine goS ?_ | (refine go2 ?_ ?_ <;> intro hh) | fail)
  refine W.loopV (d.marks.length) [2, 6, 7] [2] (fun j e1 lm1 hp1 => ∃ u1, e1.get 8 = some (.int .i64 ↑j) /\ e1.get 5 = some (u1) /\ BltN bn hp1 u1 1 (spotL (lineQ l m k cu d.marks j)) /\ HExt ⟨bn, bm⟩ hp1) ?_ ?_
  ·skip
   refine ⟨u, ?_, ?_, HB0.out, HX0.out⟩
   all_goals first | exact Z2 | simp [go_sem, *]
  intro j e1 lm1 hp1 hk1 hce hcl hinv
  simp only [keepE, and_true] at hce
  obtain ⟨c2, c6, c7⟩ := hce
  simp only [go_sem, *, Nat.reduceBEq, Nat.reduceEqDiff, reduceIte] at c2 c6 c7
  simp only [keepL, and_true] at hcl
  have d2 := hcl
  clear hcl
  simp only [go_sem, *, Nat.reduceBEq, Nat.reduceEqDiff, reduceIte] at d2
  obtain ⟨u1, h8, h5, hB, hX⟩ := hinv
  by_cases hjt : j < d.marks.length
  ·have hd1 : decide ((j : Int) < ((d.marks.length : Nat) : Int)) = true := by first | (simpa using hjt; done) | (simp only [decide_eq_true_eq]; omega)
   have hv_1 := wrap_succ hjt mm
   obtain ⟨x, hx⟩ := get_some hjt
   have hix2 := fun H => mks_idx HMI.out hx H
   have hnx := lineQ_next (l := l) (m := m) (k := k) (j := cu) hx
   have hle := (HPRE.out j).length_le
   have hbo1 := hB.blt.out
   have hll : (spotL (lineQ l m k cu d.marks j)).length + 1 <= most := by rw [spotL_len]; unfold most; omega
   obtain ⟨pn, pm⟩ := hp1
   have g1 : pm.get id = _ := (hX.2 id e4).trans E2.out
   have r1 := HRI.out ⟨pn, pm⟩ g1
   have HNX := J1 hnx
   have HLT1 := J1 hjt
   clear hx hnx hle hjt
   repeat' (first | (apply W.drawQ (id := 7) (l1 := [0, 1, 2, 3, 4, 5, 6, 7, 8, 9, 10, 11]) (l2 := []); kernel_rfl; kernel_rfl; kernel_rfl; exact Z4) | (apply W.drawQ (id := 9) (l1 := [0, 1, 2, 3, 4, 5, 6, 7, 8, 9, 10, 11, 12, 13, 14]) (l2 := [15, 16]); kernel_rfl; kernel_rfl; kernel_rfl; exact Z4) | (apply WO1.appendN (t := 36) (u := 36) (e := 3) (e' := 3) (sz := 1) (tl := []) (hb := hB) (hx := HExt.pair hX); exact Z1; exact rfl; exact Z2; exact Z2; exact Z2; (focus (exact ty_row36)); exact Z1; (focus (intro v hv; simp at hv; subst hv; first | rfl | exact hsc)); (focus (simp only [List.length_map, List.length_cons, List.length_nil]; exact hll)); (focus (simp)); (intro v' h' hB' ho' hX'; have hcc' := hB'.blt.cells; have htt' := hB'.blt.tup; simp only [AV.cells] at hcc'; simp only [isTuple] at htt'; simp only [pM, pN])) | refine go1 ?_ | (refine go2 ?_ ?_ <;> intro hh) | fail)
   all_goals refine contV_mk (by first | assumption | exact HLT1.out | exact HLT0.out) J7 J8 ?_
   all_goals refine ⟨v', ?_, ?_, ?_, hX'⟩
   all_goals first | exact Z2 | skip
   ·rw [HNX.out, spotL_app]; exact hB'
  ·have hd1 : decide ((j : Int) < ((d.marks.length : Nat) : Int)) = false := by first | (simpa using hjt; done) | (simp only [decide_eq_false_iff_not]; omega)
   obtain rfl : j = d.marks.length := by omega
   have hbo1 := hB.blt.out
   rw [<- HLN1.out] at hB
   obtain ⟨pn, pm⟩ := hp1
   have g1 : pm.get id = _ := (hX.2 id e4).trans E2.out
   have r1 := HRI.out ⟨pn, pm⟩ g1
   have HB2 := J1 hB
   have HX2 := J1 hX
   clear hB hX
   repeat' (first | (apply W.drawQ (id := 7) (l1 := [0, 1, 2, 3, 4, 5, 6, 7, 8, 9, 10, 11]) (l2 := []); kernel_rfl; kernel_rfl; kernel_rfl; exact Z4) | (apply W.drawQ (id := 9) (l1 := [0, 1, 2, 3, 4, 5, 6, 7, 8, 9, 10, 11, 12, 13, 14]) (l2 := [15, 16]); kernel_rfl; kernel_rfl; kernel_rfl; exact Z4) | refine go1 ?_ | (refine go2 ?_ ?_ <;> intro hh) | fail)
   all_goals refine contV_mk J9 J7 J8 ?_
   all_goals refine ⟨u1, ?_, ?_, HB2.out, HX2.out⟩
   all_goals first | exact Z2 | skip
 ·have hd0 : decide ((k : Int) < (((chn l m).length : Nat) : Int)) = false := by first | (simpa using hlt; done) | (simp only [decide_eq_false_iff_not]; omega)
  obtain rfl : k = (chn l m).length := by omega
  rw [lineP_all] at hB
  have hbo1 := hB.blt.out
  have HB2 := J1 hB
  have HX2 := J1 hX
  clear hB hX
  repeat' (first | refine goS ?_ | (refine go2 ?_ ?_ <;> intro hh) | fail)
  all_goals (simp only [rV Tryz.func109, Tryz.results109]; first | exact J5 | refine J6 ?_)
  exact ⟨_, _, HX1.out.trans HX2.out, rfl, HB2.out.base HX1.out.1⟩
end
end Go.AM
namespace Go.AM
open Go Go.Proofs
variable [Keep]
def spotI (q : List (Nat × Mk)) : List Int := q.map fun jx => jx.2.spot
theorem met_ok : ∀ (q : List (Nat × Mk)) (s : Nat), (∀ jx ∈ q, 0 <= jx.2.spot /\ jx.2.spot <= 7) ->
  ((foldS metS q s).2 = true ↔ (spotI q).Nodup /\ ∀ jx ∈ q, s.testBit jx.2.spot.toNat = false)
 | [], s, _ => by simp [foldS, spotI]
 | a :: q, s, h => by
  have ha := h a (by simp)
  have ih := met_ok q (s ||| 2 ^ a.2.spot.toNat) (fun jx hj => h jx (by simp [hj]))
  have e1 : spotI (a :: q) = a.2.spot :: spotI q := rfl
  rw [e1, List.nodup_cons, List.forall_mem_cons]
  unfold foldS
  by_cases hs : s &&& 2 ^ a.2.spot.toNat = 0
  ·have hb : s.testBit a.2.spot.toNat = false := by
    have := and_pow s a.2.spot.toNat
    rw [hs] at this
    cases hq : s.testBit a.2.spot.toNat with
    | false => rfl
    | true =>
     rw [hq, if_pos rfl] at this
     have hp : 0 < 2 ^ a.2.spot.toNat := Nat.two_pow_pos _
     omega
   rw [metS_go hs]
   simp only [if_true]
   rw [ih]
   constructor
   ·rintro ⟨h1, h2⟩
    refine ⟨⟨fun hm => ?_, h1⟩, hb, fun jx hj => ?_⟩
    ·unfold spotI at hm
     obtain ⟨jx, hj, he⟩ := List.mem_map.1 hm
     have := h2 jx hj
     rw [Nat.testBit_or, Bool.or_eq_false_iff, he, Nat.testBit_two_pow_self] at this
     cases this.2
    ·have := h2 jx hj
     rw [Nat.testBit_or, Bool.or_eq_false_iff] at this
     exact this.1
   ·rintro ⟨⟨h1, h2⟩, h3, h4⟩
    refine ⟨h2, fun jx hj => ?_⟩
    rw [Nat.testBit_or, Bool.or_eq_false_iff]
    refine ⟨h4 jx hj, Nat.testBit_two_pow_of_ne fun e => h1 ?_⟩
    have hjx := h jx (by simp [hj])
    have : jx.2.spot = a.2.spot := by omega
    unfold spotI
    exact List.mem_map.2 ⟨jx, hj, this⟩
  ·have hb : s.testBit a.2.spot.toNat = true := by
    have := and_pow s a.2.spot.toNat
    cases hq : s.testBit a.2.spot.toNat with
    | true => rfl
    | false =>
     rw [hq, if_neg (by decide)] at this
     exact absurd this hs
   rw [metS_no hs]
   simp only [Bool.false_eq_true, if_false, hb, false_iff, not_and]
   intro _ h2
   cases h2
theorem line_dup {l : List Md} {m : Int} (h : ∀ jx ∈ lineM l m, 0 <= jx.2.spot /\ jx.2.spot <= 7) : lineOk l m = true ↔ (spotI (lineM l m)).Nodup := by
 unfold lineOk
 rw [met_ok _ _ h]
 simp
theorem nodup_next {xs : List Int} {k : Nat} {x : Int} (hx : xs[k]? = some x) (h : (xs.take k).Nodup) (hn : x ∉ xs.take k) : (xs.take (k + 1)).Nodup := by
 rw [take_next hx, List.nodup_append]
 refine ⟨h, by simp, fun a ha b hb e => ?_⟩
 rw [List.mem_singleton] at hb
 subst hb
 subst e
 exact hn ha
theorem nodup_no {xs : List Int} {k j : Nat} {x : Int} (hx : xs[k]? = some x) (hy : xs[j]? = some x) (hj : j < k) : ¬ xs.Nodup := fun h => by
 obtain ⟨h1, e1⟩ := List.getElem?_eq_some_iff.1 hx
 obtain ⟨h2, e2⟩ := List.getElem?_eq_some_iff.1 hy
 exact List.pairwise_iff_getElem.1 h j k h2 h1 hj (by rw [e1, e2])
theorem notin_next {xs : List Int} {j : Nat} {x y : Int} (hy : xs[j]? = some y) (h : x ∉ xs.take j) (hn : ¬ y = x) : x ∉ xs.take (j + 1) := by
 rw [take_next hy, List.mem_append, List.mem_singleton]
 rintro (h1 | h1)
 ·exact h h1
 ·exact hn h1.symm
def preB (p clo chi : Int) (nm nl : Nat) (n : Int) : Bool :=
 inB p (-1) (IntKind.i64.wrap (n - 1)) && spB clo chi 0 36 && !decide (IntKind.i64.wrap (chi - clo) > 5) && !(decide (p < 0) && (chi != 0)) && !decide ((nm : Int) > 4) && inB nl 1 3
theorem md_pre (p clo chi : Int) (ms : List Mk) (ls : List Ln) (n : Int) : mdB p clo chi ms ls n = (preB p clo chi ms.length ls.length n && ms.all (fun x => !badM x) && ls.all (fun x => !badL x)) := by
 unfold mdB preB
 have e1 : (ms.any badM) = !(ms.all fun x => !badM x) := by rw [List.any_eq_not_all_not]
 have e2 : (ls.any badL) = !(ls.all fun x => !badL x) := by rw [List.any_eq_not_all_not]
 rw [e1, e2, Bool.not_not, Bool.not_not]
 congr 2
 cases hs : spB clo chi 0 36 with
 | false => simp
 | true =>
  have hz : (clo == 0 && chi == 0) = (chi == 0) := by
   unfold spB at hs
   simp only [Bool.and_eq_true, decide_eq_true_eq] at hs
   rw [Bool.eq_iff_iff]
   simp only [Bool.and_eq_true, beq_iff_eq]
   omega
  rw [hz]
  have e3 : (!(chi == 0)) = (chi != 0) := rfl
  have e4 : decide ((ms.length : Int) <= 4) = !decide ((ms.length : Int) > 4) := by
   rw [Bool.eq_iff_iff]
   simp
  rw [e3, e4]
theorem marksA_le {l : List Md} {n : Nat} (hn : n <= maxL) (h : MdsOk l n) {j : Nat} (hj : j < n) : (marksA l j).length <= 4 := by
 unfold marksA
 split
 ·rename_i d hd
  exact (mdOk_parts (by omega) (h j d hj hd)).2.2.2.2.2.1
 ·simp
theorem line_len {l : List Md} {n : Nat} (hn : n <= maxL) (h : MdsOk l n) (hl : n <= l.length) {m : Int} (h1 : -1 <= m) (h3 : m < n) : (lineM l m).length <= 4 * n := by
 obtain ⟨a, b, c⟩ := chn_at (h.wf hn) hl h1 h3
 have key : ∀ q : List Nat, (∀ j ∈ q, j < n) -> (q.flatMap fun j => (marksA l j).map fun x => (j, x)).length <= 4 * q.length := by
  intro q
  induction q with
  | nil => intro _; simp
  | cons j q ih =>
   intro hq
   have h4 := marksA_le hn h (hq j (by simp))
   have := ih fun i hi => hq i (by simp [hi])
   rw [List.flatMap_cons, List.length_append, List.length_map, List.length_cons]
   omega
 unfold lineM
 have := key (chn l m) fun j hj => by
  obtain ⟨k, hk⟩ := List.mem_iff_getElem?.1 hj
  have hkl : k < (chn l m).length := (List.getElem?_eq_some_iff.1 hk).1
  have := a k hkl
  rw [hk] at this
  have e := Option.some.inj this.1
  omega
 omega
end Go.AM
