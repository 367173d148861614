/-
  A part of the proof: contracts of functions.
-/
import Derived.Test.YtkpbdjpekjdhcaaGreatDoorRBH
set_option linter.unusedSectionVars false
set_option linter.unusedVariables false
set_option linter.unusedSimpArgs false
set_option maxRecDepth 100000
namespace Go.AM
open Go Go.Proofs
variable [Keep]
attribute [local irreducible] W WO WO1 WD WQ WT thenQ blockQ endR isRet retK Cl ClR
open Go.TX (Rm Fa Ha Hs)
attribute [local irreducible] houseB
section
variable {c : Itr}
set_option maxHeartbeats 8000000 in
theorem C70 (h70 : c 70 = none) (m : Hs) (ra fa oa ha la : AV) (g : List (List Int)) (hm : HsA m ra fa oa ha) (ho : HOk m) (hg : lisV la = some g) (q : GOk g m.rooms.length m.hours.toNat 250) (h : Heap) :
  Cl (dX c) 70 [.agg [.int .i64 m.hours, ra, fa, oa, ha], la] h (.ret (.bool true) h none) := by
 refine ClR.cl ?_
 obtain ⟨nn, hnn, hnt, hn1, hn4, hol⟩ := ho_parts ho
 have hr3 := ho.rooms
 have l1 := sl_len hm.r
 have o1 := sl_out hm.r
 have o2 := sl_out hm.f
 have o3 := sl_out hm.o
 have o4 := sl_out hm.h
 have lg := lis_len hg
 have og := lis_out hg
 have HG := Lib.hid hg
 have HQ := Lib.hid q
 have HN := Lib.hid hn4
 have HR := Lib.hid hr3
 have HL := Lib.hid q.len
 have HNT := Lib.hid hnt
 have hfin : ((g.length : Int) == (m.rooms.length : Int)) = true := by rw [q.len]; simp
 rw [hnn]
 clear hm ho hg q hnn hnt hol hn1 hn4 hr3
 refine ClR.walk (c := _) h70 Tryz.func70 rfl (by kernel_rfl) rfl (fun e => by cases e) ?_
 try simp only [entryEnv, Nat.reduceAdd, List.nil_append, List.cons_append, emptyHp]
 repeat' (first | refine goS ?_ | refine go2 (fun hh => ?_) (fun hh => ?_) | fail)
 refine W.loopH (g.length) [1, 2] [2] (fun k e lm => e.get 5 = some (.int .i64 ↑k)) ?_ ?_
 ·first | exact Z2 | rfl | assumption | (simp [go_sem, *]; done)
 intro k e lm hk0 hce hcl hinv
 simp only [keepE, and_true] at hce
 obtain ⟨c1, c2⟩ := hce
 simp only [go_sem, *, Nat.reduceLT, Int.reduceEq, Int.reduceBEq, Int.reduceLE, Int.reduceLT, Nat.reduceAdd, Nat.reduceBEq, Nat.reduceEqDiff, reduceIte, Nat.reduceLeDiff, Nat.reduceMul, Nat.reduceSub, reduceCtorEq] at c1 c2
 simp only [keepL, and_true] at hcl
 have d2 := hcl
 clear hcl
 simp only [go_sem, *, Nat.reduceLT, Int.reduceEq, Int.reduceBEq, Int.reduceLE, Int.reduceLT, Nat.reduceAdd, Nat.reduceBEq, Nat.reduceEqDiff, reduceIte, Nat.reduceLeDiff, Nat.reduceMul, Nat.reduceSub, reduceCtorEq] at d2
 have h5 := hinv
 clear hinv
 by_cases hlt : k < g.length
 ·have hd0 : decide ((k : Int) < ((g.length : Nat) : Int)) = true := by first | (simpa using hlt; done) | (simp only [decide_eq_true_eq]; omega)
  have hv_0 := wrap_succ hlt (by have := HL.out; have := HR.out; unfold maxL; omega)
  obtain ⟨r, hr⟩ := get_some hlt
  obtain ⟨b, hb1, hb2⟩ := lis_idx HG.out hr
  have lb := sl_len hb1
  have ob := sl_out hb1
  have hcb := (slV_is hb1).1.cells
  have htb := (slV_is hb1).1.tup
  simp only [AV.cells] at hcb
  simp only [isTuple] at htb
  have hrl : r.length = nn := by rw [HQ.out.row r (List.mem_of_getElem? hr)]; exact HNT.out
  have hne : ((r.length : Int) != (nn : Int)) = false := by rw [hrl]; simp
  have h7 : decide ((k : Int) < 7) = true := by have := HL.out; have := HR.out; simp only [decide_eq_true_eq]; omega
  have hval := fun x hx => HQ.out.val r (List.mem_of_getElem? hr) x hx
  have HB1 := Lib.hid hb1
  have HV := Lib.hid hval
  have HRL := Lib.hid hrl
  have HLT0 := Lib.hid hlt
  clear hr hb1 hval hrl hlt
  repeat' (first | (apply W.drawQ (id := 4) (l1 := [0, 1, 2, 3, 4, 5, 6, 7]) (l2 := []); kernel_rfl; kernel_rfl; kernel_rfl; exact Z4) | refine go1 ?_ | refine go2 (fun hh => ?_) (fun hh => ?_) | fail)
  refine W.loopH (r.length) [1, 2, 5] [2] (fun j e1 lm1 => e1.get 6 = some (.int .i64 ↑j)) ?_ ?_
  ·skip
   refine ?_
   all_goals first | exact Z2 | (simp [go_sem, *]; done) | skip
  intro j e1 lm1 hk1 hce hcl hinv
  simp only [keepE, and_true] at hce
  obtain ⟨c1, c2, c5⟩ := hce
  simp only [go_sem, *, Nat.reduceLT, Int.reduceEq, Int.reduceBEq, Int.reduceLE, Int.reduceLT, Nat.reduceAdd, Nat.reduceBEq, Nat.reduceEqDiff, reduceIte, Nat.reduceLeDiff, Nat.reduceMul, Nat.reduceSub, reduceCtorEq] at c1 c2 c5
  simp only [keepL, and_true] at hcl
  have d2 := hcl
  clear hcl
  simp only [go_sem, *, Nat.reduceLT, Int.reduceEq, Int.reduceBEq, Int.reduceLE, Int.reduceLT, Nat.reduceAdd, Nat.reduceBEq, Nat.reduceEqDiff, reduceIte, Nat.reduceLeDiff, Nat.reduceMul, Nat.reduceSub, reduceCtorEq] at d2
  have h6 := hinv
  clear hinv
  by_cases hjt : j < r.length
  ·have hd1 : decide ((j : Int) < ((r.length : Nat) : Int)) = true := by first | (simpa using hjt; done) | (simp only [decide_eq_true_eq]; omega)
   have hv_1 := wrap_succ hjt (by have := HRL.out; have := HN.out; unfold maxL; omega)
   obtain ⟨x, hx⟩ := get_some hjt
   have hix := fun H => ints_idx HB1.out hx H
   have hv := HV.out x (List.mem_of_getElem? hx)
   have e1 : decide (x < 0) = false := by simp only [decide_eq_false_iff_not]; omega
   have e2 : decide (x > 250) = false := by simp only [decide_eq_false_iff_not]; omega
   have HLT1 := Lib.hid hjt
   clear hx hv hjt
   repeat' (first | refine goS ?_ | refine go2 (fun hh => ?_) (fun hh => ?_) | fail)
   all_goals refine contH_mk (by first | assumption | exact HLT1.out) (by simp only [keepE, and_true, and_self, go_sem, *, Nat.reduceLT, Int.reduceEq, Int.reduceBEq, Int.reduceLE, Int.reduceLT, Nat.reduceAdd, Nat.reduceBEq, Nat.reduceEqDiff, reduceIte, Nat.reduceLeDiff, Nat.reduceMul, Nat.reduceSub, reduceCtorEq]) (by simp only [keepL, and_true, and_self, go_sem, *, Nat.reduceLT, Int.reduceEq, Int.reduceBEq, Int.reduceLE, Int.reduceLT, Nat.reduceAdd, Nat.reduceBEq, Nat.reduceEqDiff, reduceIte, Nat.reduceLeDiff, Nat.reduceMul, Nat.reduceSub, reduceCtorEq]) ?_
   all_goals first | exact Z2 | skip
  ·have hd1 : decide ((j : Int) < ((r.length : Nat) : Int)) = false := by first | (simpa using hjt; done) | (simp only [decide_eq_false_iff_not]; omega)
   obtain rfl : j = r.length := by omega
   repeat' (first | refine goS ?_ | refine go2 (fun hh => ?_) (fun hh => ?_) | fail)
   all_goals refine contH_mk (by first | assumption | exact HLT1.out) (by simp only [keepE, and_true, and_self, go_sem, *, Nat.reduceLT, Int.reduceEq, Int.reduceBEq, Int.reduceLE, Int.reduceLT, Nat.reduceAdd, Nat.reduceBEq, Nat.reduceEqDiff, reduceIte, Nat.reduceLeDiff, Nat.reduceMul, Nat.reduceSub, reduceCtorEq]) (by simp only [keepL, and_true, and_self, go_sem, *, Nat.reduceLT, Int.reduceEq, Int.reduceBEq, Int.reduceLE, Int.reduceLT, Nat.reduceAdd, Nat.reduceBEq, Nat.reduceEqDiff, reduceIte, Nat.reduceLeDiff, Nat.reduceMul, Nat.reduceSub, reduceCtorEq]) ?_
   all_goals first | exact Z2 | skip
 ·have hd0 : decide ((k : Int) < ((g.length : Nat) : Int)) = false := by first | (simpa using hlt; done) | (simp only [decide_eq_false_iff_not]; omega)
  obtain rfl : k = g.length := by omega
  have hz : decide ((g.length : Int) < (g.length : Int)) = false := by simp
  repeat' (first | refine goS ?_ | refine go2 (fun hh => ?_) (fun hh => ?_) | fail)
  all_goals (simp only [resV_def (X := dX c) Tryz.func70, Tryz.results70]; first | exact J5 | refine J6 ?_)
  all_goals rfl
end
theorem end_fits {m : Hs} (ho : HOk m) (b : Bool) : fitsB m (endL m b m.hours.toNat m.rooms.length) = true := by
 unfold fitsB
 rw [List.all_eq_true]
 intro r hr
 have hr := List.mem_range.1 hr
 unfold rowFit
 have hg := endL_get m b m.hours.toNat hr
 simp only [List.getD, hg, Option.getD_some]
 rw [List.all_eq_true]
 intro x hx
 have := (List.mem_replicate.1 hx).2
 subst this
 have hs := stt_ok ho r
 rw [inB_iff]
 unfold endN
 simp only [List.getD] at hs ⊢
 split <;> omega
theorem end_truth {m : Hs} (hb : houseB m = true) (b : Bool) {f : Fl} (hf : f ∈ failsH m) : runV m (endL m b m.hours.toNat m.rooms.length) f.tell = .tuple [slN (rowsE (if b = true then highG m f else lowG m f)), .int .i64 0] := by
 have ho := house_ok hb
 obtain ⟨h1, h2⟩ := end_sized ho b hf
 have h3 := sized_shape ho (endL m b m.hours.toNat m.rooms.length) f.tell
 rw [h1] at h3
 have h4 := h3.symm
 simp only [Bool.and_eq_true] at h4
 have ht : isTruth m (endL m b m.hours.toNat m.rooms.length) f.tell = true := by
  unfold isTruth
  rw [hb, h4.1, h4.2, end_fits ho b]; rfl
 unfold runV
 rw [ht, h2]
 simp only [if_true]
 rw [run_end rfl (Nat.le_refl _)]
 unfold highG lowG
 rfl
end Go.AM
