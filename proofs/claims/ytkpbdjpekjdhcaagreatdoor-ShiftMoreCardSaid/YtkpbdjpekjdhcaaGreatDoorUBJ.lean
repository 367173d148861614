/-
  A part of the proof: contracts of functions.
-/
import Derived.Test.YtkpbdjpekjdhcaaGreatDoorUBI
import Derived.Test.YtkpbdjpekjdhcaaGreatDoorUBD
set_option linter.unusedSectionVars false
set_option linter.unusedVariables false
set_option linter.unusedSimpArgs false
set_option maxRecDepth 100000
namespace Go.AM
open Go Go.Proofs
variable [Keep]
attribute [local irreducible] W WO WO1 WD WQ WT thenQ blockQ endR isRet retK Cl ClR
open Go.TX (Rm Fa Ha Hs)
attribute [local irreducible] hasB metF pathB houseB failsH highG lowG brV airS
def busyL (p : List Int) : Nat := p.countP fun r => decide (r ≥ 0)
def limAt (m : Hs) (i : Nat) : Int := match m.hands[i]? with | some x => x.limit | none => 0
def mostAt (m : Hs) (i : Nat) : Int := match m.hands[i]? with | some x => x.most | none => 0
def fairB (m : Hs) (g : List (List Int)) : Bool := (List.range g.length).all fun i => !decide ((busyL (g.getD i []) : Int) > mostAt m i)
def dan1 (m : Hs) (li : Int) (p : List Int) : Option Fl := (failsH m).find? fun f => decide (brV (highG m f) p > li)
def danL (m : Hs) (g : List (List Int)) : Nat → Option (Nat × Fl)
 | 0 => none
 | k + 1 => match danL m g k with
  | some x => some x
  | none => match dan1 m (limAt m k) (g.getD k []) with
   | some f => some (k, f)
   | none => none
def keptR (m : Hs) (g : List (List Int)) : Bool := (danL m g g.length).isNone && fairB m g
section
variable {c : Itr}
set_option maxHeartbeats 8000000 in
theorem C54 (hc : CxR c) (h54 : c 54 = none) (h62 : c 62 = none) (m : Hs) (ra fa oa ha dv : AV) (g : List (List Int)) (hm : HsA m ra fa oa ha) (hg : lisV dv = some g) (ho : HOk m) (h : Heap) :
  Cl (dX c) 54 [.agg [.int .i64 m.hours, ra, fa, oa, ha], dv] h (.ret (.bool (rosR m g)) h none) := by
 refine ClR.cl ?_
 obtain ⟨nn, hnn, hnt, hn1, hn4, hol⟩ := ho_parts ho
 have hr3 := ho.rooms
 have l1 := sl_len hm.r
 have l4 := sl_len hm.h
 have o1 := sl_out hm.r
 have o2 := sl_out hm.f
 have o3 := sl_out hm.o
 have o4 := sl_out hm.h
 have ld := lis_len hg
 have od := lis_out hg
 have md := lis_max hg
 have k62 := fun pa p (hp : slV intC pa = some p) h => C62 hc h62 m ra fa oa ha pa p hm hp h
 have hset := fun (x : Int) (hx : x ∈ m.op) => ho.set x hx
 have hset2 : ∀ x ∈ m.op, 0 ≤ x ∧ x < 16 := fun x hx => by
  have h1 := ho.set x hx
  have : (2 : Int) ^ m.rooms.length ≤ 8 := by
   have : m.rooms.length = 1 ∨ m.rooms.length = 2 ∨ m.rooms.length = 3 := by omega
   rcases this with e | e | e <;> rw [e] <;> decide
  omega
 have k75 := fun (s : Int) (hs : s ∈ m.op) (r : Nat) (hr : r < m.rooms.length) h => C75 hc s r (hset2 s hs) (by omega) h
 unfold rosR
 rw [hol]
 have HO := Lib.hid ho
 have HG := Lib.hid hg
 have HM := Lib.hid hm
 have HN := Lib.hid hn4
 have HR := Lib.hid hr3
 have HOL := Lib.hid hol
 have HNN := Lib.hid hnt
 have K75' := Lib.hid k75
 rw [hnn] at k62 ⊢
 have K62' := Lib.hid k62
 clear hm hg ho hnn hnt hn1 hn4 hol hr3 hset hset2 k75 k62 hc
 refine ClR.walk (c := _) h54 Tryz.func54 rfl (by kernel_rfl) rfl (fun e => by cases e) ?_
 try simp only [entryEnv, Nat.reduceAdd, List.nil_append, List.cons_append, emptyHp]
 repeat' (first | refine goS ?_ | refine go2 (fun hh => ?_) (fun hh => ?_) | fail)
 refine W.loopH (g.length) [1, 2] [2] (fun k e lm => e.get 5 = some (.int .i64 ↑k) ∧ (g.take k).all (pathB m) = true) ?_ ?_
 ·skip
  refine ⟨?_, ?_⟩
  all_goals first | exact Z2 | (simp [go_sem, *]; done) | skip
  all_goals rfl
 intro k e lm hk0 hce hcl hinv
 simp only [keepE, and_true] at hce
 obtain ⟨c1, c2⟩ := hce
 simp only [go_sem, *, Nat.reduceLT, Int.reduceEq, Int.reduceBEq, Int.reduceLE, Int.reduceLT, Nat.reduceAdd, Nat.reduceBEq, Nat.reduceEqDiff, reduceIte, Nat.reduceLeDiff, Nat.reduceMul, Nat.reduceSub, reduceCtorEq] at c1 c2
 simp only [keepL, and_true] at hcl
 have d2 := hcl
 clear hcl
 simp only [go_sem, *, Nat.reduceLT, Int.reduceEq, Int.reduceBEq, Int.reduceLE, Int.reduceLT, Nat.reduceAdd, Nat.reduceBEq, Nat.reduceEqDiff, reduceIte, Nat.reduceLeDiff, Nat.reduceMul, Nat.reduceSub, reduceCtorEq] at d2
 obtain ⟨h5, hal⟩ := hinv
 by_cases hlt : k < g.length
 ·have hd0 : decide ((k : Int) < ((g.length : Nat) : Int)) = true := by first | (simpa using hlt; done) | (simp only [decide_eq_true_eq]; omega)
  have hv_0 := wrap_succ hlt md
  obtain ⟨p, hp⟩ := get_some hlt
  obtain ⟨b, hb1, hb2⟩ := lis_idx HG.out hp
  have k62 := fun h => K62'.out b p hb1 h
  have ob := sl_out hb1
  have hcb := (slV_is hb1).1.cells
  have htb := (slV_is hb1).1.tup
  simp only [AV.cells] at hcb
  simp only [isTuple] at htb
  have hnx := all_at hp hal
  have HNX := Lib.hid hnx
  have HP := Lib.hid hp
  have HLT0 := Lib.hid hlt
  clear hb1 hp hnx hal hlt
  cases e : pathB m p with
  | true =>
   rw [e] at k62
   repeat' (first | (apply W.drawQ (id := 4) (l1 := [0, 1, 2, 3, 4, 5, 6]) (l2 := []); kernel_rfl; kernel_rfl; kernel_rfl; exact Z4) | refine go1 ?_ | (apply U6; exact Z1; exact Z1; (focus (simp only [List.nil_append, List.append_nil]; first | exact k62 _)); simp only [pM, pN, rR, rP]) | refine go2 (fun hh => ?_) (fun hh => ?_) | fail)
   all_goals refine contH_mk (by first | assumption | exact HLT0.out | exact HLT0.out) (by simp only [keepE, and_true, and_self, go_sem, *, Nat.reduceLT, Int.reduceEq, Int.reduceBEq, Int.reduceLE, Int.reduceLT, Nat.reduceAdd, Nat.reduceBEq, Nat.reduceEqDiff, reduceIte, Nat.reduceLeDiff, Nat.reduceMul, Nat.reduceSub, reduceCtorEq]) (by simp only [keepL, and_true, and_self, go_sem, *, Nat.reduceLT, Int.reduceEq, Int.reduceBEq, Int.reduceLE, Int.reduceLT, Nat.reduceAdd, Nat.reduceBEq, Nat.reduceEqDiff, reduceIte, Nat.reduceLeDiff, Nat.reduceMul, Nat.reduceSub, reduceCtorEq]) ?_
   all_goals refine ⟨?_, ?_⟩
   all_goals first | exact Z2 | skip
   all_goals exact HNX.out.trans e
  | false =>
   rw [e] at k62
   have hno : g.all (pathB m) = false := by
    rw [List.all_eq_false]
    exact ⟨p, List.mem_of_getElem? HP.out, by rw [e]; simp⟩
   rw [hno, Bool.false_and, Bool.false_and]
   clear hno
   repeat' (first | (apply W.drawQ (id := 4) (l1 := [0, 1, 2, 3, 4, 5, 6]) (l2 := []); kernel_rfl; kernel_rfl; kernel_rfl; exact Z4) | refine go1 ?_ | (apply U6; exact Z1; exact Z1; (focus (simp only [List.nil_append, List.append_nil]; first | exact k62 _)); simp only [pM, pN, rR, rP]) | refine go2 (fun hh => ?_) (fun hh => ?_) | fail)
   all_goals (simp only [resV_def (X := dX c) Tryz.func54, Tryz.results54]; first | exact J5 | refine J6 ?_)
   all_goals rfl
 ·have hd0 : decide ((k : Int) < ((g.length : Nat) : Int)) = false := by first | (simpa using hlt; done) | (simp only [decide_eq_false_iff_not]; omega)
  obtain rfl : k = g.length := by omega
  rw [List.take_length] at hal
  have hpb := hal
  rw [List.all_eq_true] at hpb
  rw [hal, Bool.true_and]
  have HPB := Lib.hid hpb
  clear hal hpb
  cases hl : ((g.length : Int) != (m.hands.length : Int)) with
  | true =>
   rw [Bool.not_true, Bool.false_and]
   repeat' (first | refine goS ?_ | refine go2 (fun hh => ?_) (fun hh => ?_) | fail)
   all_goals (simp only [resV_def (X := dX c) Tryz.func54, Tryz.results54]; first | exact J5 | refine J6 ?_)
   all_goals rfl
  | false =>
   rw [Bool.not_false, Bool.true_and]
   repeat' (first | refine goS ?_ | refine go2 (fun hh => ?_) (fun hh => ?_) | fail)
   refine W.loopH (nn) [1, 2] [2] (fun j e1 lm1 => e1.get 6 = some (.int .i64 ↑j) ∧ (List.range j).all (hourB m g) = true) ?_ ?_
   ·skip
    refine ⟨?_, ?_⟩
    all_goals first | exact Z2 | (simp [go_sem, *]; done) | skip
    all_goals rfl
   intro j e1 lm1 hk1 hce hcl hinv
   simp only [keepE, and_true] at hce
   obtain ⟨c1, c2⟩ := hce
   simp only [go_sem, *, Nat.reduceLT, Int.reduceEq, Int.reduceBEq, Int.reduceLE, Int.reduceLT, Nat.reduceAdd, Nat.reduceBEq, Nat.reduceEqDiff, reduceIte, Nat.reduceLeDiff, Nat.reduceMul, Nat.reduceSub, reduceCtorEq] at c1 c2
   simp only [keepL, and_true] at hcl
   have d2 := hcl
   clear hcl
   simp only [go_sem, *, Nat.reduceLT, Int.reduceEq, Int.reduceBEq, Int.reduceLE, Int.reduceLT, Nat.reduceAdd, Nat.reduceBEq, Nat.reduceEqDiff, reduceIte, Nat.reduceLeDiff, Nat.reduceMul, Nat.reduceSub, reduceCtorEq] at d2
   obtain ⟨h6, hal⟩ := hinv
   by_cases hjt : j < nn
   ·have hd1 : decide ((j : Int) < ((nn : Nat) : Int)) = true := by first | (simpa using hjt; done) | (simp only [decide_eq_true_eq]; omega)
    have hv_1 := wrap_succ hjt (by have := HN.out; unfold maxL; omega)
    obtain ⟨so, hso⟩ := get_some (l := m.op) (k := j) (by have := HOL.out; omega)
    have hixo := fun H => ints_idx HM.out.o hso H
    have hgs : m.op.getD j 0 = so := by simp [List.getD, hso]
    have hnx : (List.range (j + 1)).all (hourB m g) = hourB m g j := by rw [List.range_succ, List.all_append, hal]; simp
    have hho : hourB m g j = (List.range m.rooms.length).all fun r => cntOk (hasB so r) ((colL g j).count (r : Int)) := by unfold hourB; rw [hgs]
    have hno : hourB m g j = false → (List.range nn).all (hourB m g) = false := fun e => by
     rw [List.all_eq_false]
     exact ⟨j, List.mem_range.2 hjt, by rw [e]; simp⟩
    have HNO := Lib.hid hno
    have HHO := Lib.hid hho
    have HNX := Lib.hid hnx
    have HSO := Lib.hid (List.mem_of_getElem? hso)
    have HLT0 := Lib.hid hjt
    clear hso hgs hnx hal hho hno hjt
    repeat' (first | refine goS ?_ | refine go2 (fun hh => ?_) (fun hh => ?_) | fail)
    refine W.loopH (m.rooms.length) [1, 2, 6] [2] (fun i e2 lm2 => e2.get 7 = some (.int .i64 ↑i) ∧ (List.range i).all (fun r => cntOk (hasB so r) ((colL g j).count (r : Int))) = true) ?_ ?_
    ·skip
     refine ⟨?_, ?_⟩
     all_goals first | exact Z2 | (simp [go_sem, *]; done) | skip
     all_goals rfl
    intro i e2 lm2 hk2 hce hcl hinv
    simp only [keepE, and_true] at hce
    obtain ⟨c1, c2, c6⟩ := hce
    simp only [go_sem, *, Nat.reduceLT, Int.reduceEq, Int.reduceBEq, Int.reduceLE, Int.reduceLT, Nat.reduceAdd, Nat.reduceBEq, Nat.reduceEqDiff, reduceIte, Nat.reduceLeDiff, Nat.reduceMul, Nat.reduceSub, reduceCtorEq] at c1 c2 c6
    simp only [keepL, and_true] at hcl
    have d2 := hcl
    clear hcl
    simp only [go_sem, *, Nat.reduceLT, Int.reduceEq, Int.reduceBEq, Int.reduceLE, Int.reduceLT, Nat.reduceAdd, Nat.reduceBEq, Nat.reduceEqDiff, reduceIte, Nat.reduceLeDiff, Nat.reduceMul, Nat.reduceSub, reduceCtorEq] at d2
    obtain ⟨h7, ha2⟩ := hinv
    by_cases hit : i < m.rooms.length
    ·have hd2 : decide ((i : Int) < ((m.rooms.length : Nat) : Int)) = true := by first | (simpa using hit; done) | (simp only [decide_eq_true_eq]; omega)
     have hv_2 := wrap_succ hit (by have := HR.out; unfold maxL; omega)
     have k75 := fun h => K75'.out so HSO.out i hit h
     have hnx : (List.range (i + 1)).all (fun r => cntOk (hasB so r) ((colL g j).count (r : Int))) = cntOk (hasB so i) ((colL g j).count (i : Int)) := by rw [List.range_succ, List.all_append, ha2]; simp
     have hno : cntOk (hasB so i) ((colL g j).count (i : Int)) = false → (List.range m.rooms.length).all (fun r => cntOk (hasB so r) ((colL g j).count (r : Int))) = false := fun e => by
      rw [List.all_eq_false]
      exact ⟨i, List.mem_range.2 hit, by rw [e]; simp⟩
     have HNO2 := Lib.hid hno
     have HNX2 := Lib.hid hnx
     have HLT1 := Lib.hid hit
     clear ha2 hnx hno hit
     repeat' (first | refine goS ?_ | refine go2 (fun hh => ?_) (fun hh => ?_) | fail)
     refine W.loopH (g.length) [1, 2, 6, 7] [2] (fun m e3 lm3 => ∃ s, e3.get 9 = some (.int .i64 ↑m) ∧ e3.get 8 = some (.int .i64 ((s : Nat) : Int)) ∧ (colL (g.take m) j).count (i : Int) = s) ?_ ?_
     ·skip
      refine ⟨0, ?_, ?_, ?_⟩
      all_goals first | exact Z2 | (simp [go_sem, *]; done) | skip
      all_goals rfl
     intro m e3 lm3 hk3 hce hcl hinv
     simp only [keepE, and_true] at hce
     obtain ⟨c1, c2, c6, c7⟩ := hce
     simp only [go_sem, *, Nat.reduceLT, Int.reduceEq, Int.reduceBEq, Int.reduceLE, Int.reduceLT, Nat.reduceAdd, Nat.reduceBEq, Nat.reduceEqDiff, reduceIte, Nat.reduceLeDiff, Nat.reduceMul, Nat.reduceSub, reduceCtorEq] at c1 c2 c6 c7
     simp only [keepL, and_true] at hcl
     have d2 := hcl
     clear hcl
     simp only [go_sem, *, Nat.reduceLT, Int.reduceEq, Int.reduceBEq, Int.reduceLE, Int.reduceLT, Nat.reduceAdd, Nat.reduceBEq, Nat.reduceEqDiff, reduceIte, Nat.reduceLeDiff, Nat.reduceMul, Nat.reduceSub, reduceCtorEq] at d2
     obtain ⟨s, h9, h8, hs⟩ := hinv
     by_cases hmt : m < g.length
     ·have hd3 : decide ((m : Int) < ((g.length : Nat) : Int)) = true := by first | (simpa using hmt; done) | (simp only [decide_eq_true_eq]; omega)
      have hv_3 := wrap_succ hmt md
      obtain ⟨p, hp⟩ := get_some hmt
      obtain ⟨b, hb1, hb2⟩ := lis_idx HG.out hp
      obtain ⟨q1, q2⟩ := path_is HO.out (HPB.out p (List.mem_of_getElem? hp))
      obtain ⟨r, hr⟩ := get_some (l := p) (k := j) (by have := HNN.out; have := HLT0.out; omega)
      have hix := fun H => ints_idx hb1 hr H
      have hgr : p.getD j 0 = r := by simp [List.getD, hr]
      have ob := sl_out hb1
      have hcb := (slV_is hb1).1.cells
      have htb := (slV_is hb1).1.tup
      simp only [AV.cells] at hcb
      simp only [isTuple] at htb
      have hnx : (colL (g.take (m + 1)) j).count (i : Int) = s + (if (r == (i : Int)) = true then 1 else 0) := by
       unfold colL at hs ⊢
       rw [take_next hp, List.map_append, List.count_append, hs, List.map_cons, List.map_nil, hgr, List.count_singleton]
      have hsl : s ≤ m := by
       rw [← hs]
       refine Nat.le_trans List.count_le_length ?_
       unfold colL
       rw [List.length_map, List.length_take]
       omega
      have hw := wrap_succ (k := s) (m := g.length) (by omega) md
      have HNX3 := Lib.hid hnx
      have HLT2 := Lib.hid hmt
      clear hp hb1 q1 q2 hr hgr hnx hs hsl hmt
      cases e : (r == (i : Int)) with
      | true =>
       repeat' (first | refine goS ?_ | refine go2 (fun hh => ?_) (fun hh => ?_) | fail)
       all_goals refine contH_mk (by first | assumption | exact HLT3.out | exact HLT0.out) (by simp only [keepE, and_true, and_self, go_sem, *, Nat.reduceLT, Int.reduceEq, Int.reduceBEq, Int.reduceLE, Int.reduceLT, Nat.reduceAdd, Nat.reduceBEq, Nat.reduceEqDiff, reduceIte, Nat.reduceLeDiff, Nat.reduceMul, Nat.reduceSub, reduceCtorEq]) (by simp only [keepL, and_true, and_self, go_sem, *, Nat.reduceLT, Int.reduceEq, Int.reduceBEq, Int.reduceLE, Int.reduceLT, Nat.reduceAdd, Nat.reduceBEq, Nat.reduceEqDiff, reduceIte, Nat.reduceLeDiff, Nat.reduceMul, Nat.reduceSub, reduceCtorEq]) ?_
       all_goals refine ⟨s + 1, ?_, ?_, ?_⟩
       all_goals first | exact Z2 | skip
       all_goals (first | (rw [HNX3.out]; simp only [e, if_true]; done) | exact Z2)
      | false =>
       repeat' (first | refine goS ?_ | refine go2 (fun hh => ?_) (fun hh => ?_) | fail)
       all_goals refine contH_mk (by first | assumption | exact HLT3.out | exact HLT0.out) (by simp only [keepE, and_true, and_self, go_sem, *, Nat.reduceLT, Int.reduceEq, Int.reduceBEq, Int.reduceLE, Int.reduceLT, Nat.reduceAdd, Nat.reduceBEq, Nat.reduceEqDiff, reduceIte, Nat.reduceLeDiff, Nat.reduceMul, Nat.reduceSub, reduceCtorEq]) (by simp only [keepL, and_true, and_self, go_sem, *, Nat.reduceLT, Int.reduceEq, Int.reduceBEq, Int.reduceLE, Int.reduceLT, Nat.reduceAdd, Nat.reduceBEq, Nat.reduceEqDiff, reduceIte, Nat.reduceLeDiff, Nat.reduceMul, Nat.reduceSub, reduceCtorEq]) ?_
       all_goals refine ⟨s, ?_, ?_, ?_⟩
       all_goals first | exact Z2 | skip
       all_goals (first | (rw [HNX3.out]; simp only [e]; rfl) | exact Z2)
     ·have hd3 : decide ((m : Int) < ((g.length : Nat) : Int)) = false := by first | (simpa using hmt; done) | (simp only [decide_eq_false_iff_not]; omega)
      obtain rfl : m = g.length := by omega
      rw [List.take_length] at hs
      rw [hs] at HNO2 HNX2
      clear hs
      cases e1 : hasB so (i : Int) with
      | true =>
       rw [e1] at k75 HNO2 HNX2
       cases e2 : ((s : Int) != 1) with
       | true =>
        have e3 : cntOk true s = false := by unfold cntOk; rw [e2]; rfl
        have e4 := HNO2.out e3
        rw [← HHO.out] at e4
        rw [HNO.out e4]
        clear e3 e4 HNO2 HNX2
        repeat' (first | (refine WO1.gund rfl rfl ?_ ?_; exact Z2; simp only [pM, pN, rR, rP]) | (apply W.drawQ (id := 4) (l1 := [0, 1, 2, 3, 4, 5, 6]) (l2 := []); kernel_rfl; kernel_rfl; kernel_rfl; exact Z4) | refine go1 ?_ | (apply U6; exact Z1; exact Z1; (focus (simp only [List.nil_append, List.append_nil]; first | exact k75 _)); simp only [pM, pN, rR, rP]) | refine go2 (fun hh => ?_) (fun hh => ?_) | fail)
        all_goals (simp only [resV_def (X := dX c) Tryz.func54, Tryz.results54]; first | exact J5 | refine J6 ?_)
        all_goals rfl
       | false =>
        have e3 : cntOk true s = true := by unfold cntOk; rw [e2]; rfl
        repeat' (first | (refine WO1.gund rfl rfl ?_ ?_; exact Z2; simp only [pM, pN, rR, rP]) | (apply W.drawQ (id := 4) (l1 := [0, 1, 2, 3, 4, 5, 6]) (l2 := []); kernel_rfl; kernel_rfl; kernel_rfl; exact Z4) | refine go1 ?_ | (apply U6; exact Z1; exact Z1; (focus (simp only [List.nil_append, List.append_nil]; first | exact k75 _)); simp only [pM, pN, rR, rP]) | refine go2 (fun hh => ?_) (fun hh => ?_) | fail)
        all_goals refine contH_mk (by first | assumption | exact HLT2.out | exact HLT0.out) (by simp only [keepE, and_true, and_self, go_sem, *, Nat.reduceLT, Int.reduceEq, Int.reduceBEq, Int.reduceLE, Int.reduceLT, Nat.reduceAdd, Nat.reduceBEq, Nat.reduceEqDiff, reduceIte, Nat.reduceLeDiff, Nat.reduceMul, Nat.reduceSub, reduceCtorEq]) (by simp only [keepL, and_true, and_self, go_sem, *, Nat.reduceLT, Int.reduceEq, Int.reduceBEq, Int.reduceLE, Int.reduceLT, Nat.reduceAdd, Nat.reduceBEq, Nat.reduceEqDiff, reduceIte, Nat.reduceLeDiff, Nat.reduceMul, Nat.reduceSub, reduceCtorEq]) ?_
        all_goals refine ⟨?_, ?_⟩
        all_goals first | exact Z2 | skip
        all_goals exact HNX2.out.trans e3
      | false =>
       rw [e1] at k75 HNO2 HNX2
       cases e2 : ((s : Int) != 0) with
       | true =>
        have e3 : cntOk false s = false := by unfold cntOk; rw [e2]; rfl
        have e4 := HNO2.out e3
        rw [← HHO.out] at e4
        rw [HNO.out e4]
        clear e3 e4 HNO2 HNX2
        repeat' (first | (refine WO1.gund rfl rfl ?_ ?_; exact Z2; simp only [pM, pN, rR, rP]) | (apply W.drawQ (id := 4) (l1 := [0, 1, 2, 3, 4, 5, 6]) (l2 := []); kernel_rfl; kernel_rfl; kernel_rfl; exact Z4) | refine go1 ?_ | (apply U6; exact Z1; exact Z1; (focus (simp only [List.nil_append, List.append_nil]; first | exact k75 _)); simp only [pM, pN, rR, rP]) | refine go2 (fun hh => ?_) (fun hh => ?_) | fail)
        all_goals (simp only [resV_def (X := dX c) Tryz.func54, Tryz.results54]; first | exact J5 | refine J6 ?_)
        all_goals rfl
       | false =>
        have e3 : cntOk false s = true := by unfold cntOk; rw [e2]; rfl
        repeat' (first | (refine WO1.gund rfl rfl ?_ ?_; exact Z2; simp only [pM, pN, rR, rP]) | (apply W.drawQ (id := 4) (l1 := [0, 1, 2, 3, 4, 5, 6]) (l2 := []); kernel_rfl; kernel_rfl; kernel_rfl; exact Z4) | refine go1 ?_ | (apply U6; exact Z1; exact Z1; (focus (simp only [List.nil_append, List.append_nil]; first | exact k75 _)); simp only [pM, pN, rR, rP]) | refine go2 (fun hh => ?_) (fun hh => ?_) | fail)
        all_goals refine contH_mk (by first | assumption | exact HLT2.out | exact HLT0.out) (by simp only [keepE, and_true, and_self, go_sem, *, Nat.reduceLT, Int.reduceEq, Int.reduceBEq, Int.reduceLE, Int.reduceLT, Nat.reduceAdd, Nat.reduceBEq, Nat.reduceEqDiff, reduceIte, Nat.reduceLeDiff, Nat.reduceMul, Nat.reduceSub, reduceCtorEq]) (by simp only [keepL, and_true, and_self, go_sem, *, Nat.reduceLT, Int.reduceEq, Int.reduceBEq, Int.reduceLE, Int.reduceLT, Nat.reduceAdd, Nat.reduceBEq, Nat.reduceEqDiff, reduceIte, Nat.reduceLeDiff, Nat.reduceMul, Nat.reduceSub, reduceCtorEq]) ?_
        all_goals refine ⟨?_, ?_⟩
        all_goals first | exact Z2 | skip
        all_goals exact HNX2.out.trans e3
    ·have hd2 : decide ((i : Int) < ((m.rooms.length : Nat) : Int)) = false := by first | (simpa using hit; done) | (simp only [decide_eq_false_iff_not]; omega)
     obtain rfl : i = m.rooms.length := by omega
     repeat' (first | refine goS ?_ | refine go2 (fun hh => ?_) (fun hh => ?_) | fail)
     all_goals refine contH_mk (by first | assumption | exact HLT1.out | exact HLT0.out) (by simp only [keepE, and_true, and_self, go_sem, *, Nat.reduceLT, Int.reduceEq, Int.reduceBEq, Int.reduceLE, Int.reduceLT, Nat.reduceAdd, Nat.reduceBEq, Nat.reduceEqDiff, reduceIte, Nat.reduceLeDiff, Nat.reduceMul, Nat.reduceSub, reduceCtorEq]) (by simp only [keepL, and_true, and_self, go_sem, *, Nat.reduceLT, Int.reduceEq, Int.reduceBEq, Int.reduceLE, Int.reduceLT, Nat.reduceAdd, Nat.reduceBEq, Nat.reduceEqDiff, reduceIte, Nat.reduceLeDiff, Nat.reduceMul, Nat.reduceSub, reduceCtorEq]) ?_
     all_goals refine ⟨?_, ?_⟩
     all_goals first | exact Z2 | skip
     all_goals exact HNX.out.trans (HHO.out.trans ha2)
   ·have hd1 : decide ((j : Int) < ((nn : Nat) : Int)) = false := by first | (simpa using hjt; done) | (simp only [decide_eq_false_iff_not]; omega)
    obtain rfl : j = nn := by omega
    rw [hal]
    clear hal
    repeat' (first | refine goS ?_ | refine go2 (fun hh => ?_) (fun hh => ?_) | fail)
    all_goals (simp only [resV_def (X := dX c) Tryz.func54, Tryz.results54]; first | exact J5 | refine J6 ?_)
    all_goals rfl
end
end Go.AM
