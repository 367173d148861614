/-
  A part of the proof: contracts of functions.
-/
import Derived.Test.YtkpbdjpekjdhcaaGreatDoorXBB
import Derived.Test.YtkpbdjpekjdhcaaGreatDoorXAY
set_option linter.unusedSectionVars false
set_option linter.unusedVariables false
set_option linter.unusedSimpArgs false
set_option maxRecDepth 100000
namespace Go.AM
open Go Go.Proofs
variable [Keep]
attribute [local irreducible] W WO WO1 WD WQ WT thenQ blockQ endR isRet retK Cl ClR
open Go.TX (Rm Fa Ha Hs mapO mapO_len)
attribute [local irreducible] houseB airS mostF leastF dustAt
section
variable {c : Itr}
set_option maxHeartbeats 4000000 in
theorem C62 (hc : CxR c) (h62 : c 62 = none) (m : Hs) (ra fa oa ha pa : AV) (p : List Int) (hm : HsA m ra fa oa ha) (hp : slV intC pa = some p) (h : Heap) :
  Cl (dX c) 62 [.agg [.int .i64 m.hours, ra, fa, oa, ha], pa] h (.ret (.bool (pathB m p)) h none) := by
 refine ClR.cl ?_
 have l1 := sl_len hm.r
 have o1 := sl_out hm.r
 have o2 := sl_out hm.f
 have o3 := sl_out hm.o
 have o4 := sl_out hm.h
 have lp := sl_len hp
 have op := sl_out hp
 have mp := sl_max hp
 have HP := J1 hp
 have k84 := fun x h => K84 (X := dX c) hc.h84 x (-1) (IntKind.i64.wrap (m.rooms.length - 1)) h
 have K1 := J1 k84
 have hS : pathB m p = (((p.length : Int) == m.hours) && p.all fun r => inB r (-1) (IntKind.i64.wrap (m.rooms.length - 1))) := rfl
 rw [hS]
 clear hm hp k84 hS hc
 refine ClR.walk (c := _) h62 Tryz.func62 rfl (by kernel_rfl) rfl (fun e => by cases e) ?_
 try simp only [entryEnv, Nat.reduceAdd, List.nil_append, List.cons_append, emptyHp]
 repeat' (first | refine goS ?_ | (refine go2 ?_ ?_ <;> intro hh) | fail)
 refine W.loopH (p.length) [1, 2] [2] (fun k e lm => e.get 5 = some (.int .i64 ↑k) /\ (p.take k).all (fun r => inB r (-1) (IntKind.i64.wrap (m.rooms.length - 1))) = true) ?_ ?_
 ·refine ⟨?_, ?_⟩ <;> first | exact Z2 | rfl | assumption | (simp [go_sem, *]; done)
 intro k e lm hk0 hce hcl hinv
 simp only [keepE, and_true] at hce
 obtain ⟨c1, c2⟩ := hce
 simp only [go_sem, *, Nat.reduceBEq, Nat.reduceEqDiff, reduceIte] at c1 c2
 simp only [keepL, and_true] at hcl
 have d2 := hcl
 clear hcl
 simp only [go_sem, *, Nat.reduceBEq, Nat.reduceEqDiff, reduceIte] at d2
 obtain ⟨h5, hal⟩ := hinv
 by_cases hlt : k < p.length
 ·have hd0 : decide ((k : Int) < ((p.length : Nat) : Int)) = true := by first | (simpa using hlt; done) | (simp only [decide_eq_true_eq]; omega)
  have hv_0 := wrap_succ hlt mp
  obtain ⟨n, hn⟩ := get_some hlt
  have hix := fun H => ints_idx HP.out hn H
  have hnx := all_at hn hal
  have k84 := K1.out n
  have HNX := J1 hnx
  have HNN := J1 hn
  have HLT0 := J1 hlt
  clear hn hnx hal hlt
  cases hb : inB n (-1) (IntKind.i64.wrap (m.rooms.length - 1)) with
  | true =>
   rw [hb] at k84
   repeat' (first | (apply W.drawQ (id := 4) (l1 := [0, 1, 2, 3, 4, 5, 6, 7, 8, 9]) (l2 := []); kernel_rfl; kernel_rfl; kernel_rfl; exact Z4) | refine go1 ?_ | (apply U6; exact Z1; exact Z1; (exact k84 _); simp only [pM, pN, rR, rP]) | (refine go2 ?_ ?_ <;> intro hh) | fail)
   all_goals refine contH_mk J9 J7 J8 ?_
   all_goals refine ⟨?_, ?_⟩
   all_goals first | exact Z2 | skip
   all_goals exact HNX.out.trans hb
  | false =>
   rw [hb] at k84
   have hno : (p.all fun r => inB r (-1) (IntKind.i64.wrap (m.rooms.length - 1))) = false := by
    rw [List.all_eq_false]
    exact ⟨n, List.mem_of_getElem? HNN.out, by rw [hb]; simp⟩
   rw [hno, Bool.and_false]
   clear hno
   repeat' (first | (apply W.drawQ (id := 4) (l1 := [0, 1, 2, 3, 4, 5, 6, 7, 8, 9]) (l2 := []); kernel_rfl; kernel_rfl; kernel_rfl; exact Z4) | refine go1 ?_ | (apply U6; exact Z1; exact Z1; (exact k84 _); simp only [pM, pN, rR, rP]) | (refine go2 ?_ ?_ <;> intro hh) | fail)
   all_goals (simp only [resV_def (X := dX c) Tryz.func62, Tryz.results62]; first | exact J5 | refine J6 ?_)
   all_goals rfl
 ·have hd0 : decide ((k : Int) < ((p.length : Nat) : Int)) = false := by first | (simpa using hlt; done) | (simp only [decide_eq_false_iff_not]; omega)
  obtain rfl : k = p.length := by omega
  rw [List.take_length] at hal
  rw [hal, Bool.and_true]
  clear hal
  repeat' (first | refine goS ?_ | (refine go2 ?_ ?_ <;> intro hh) | fail)
  all_goals (simp only [resV_def (X := dX c) Tryz.func62, Tryz.results62]; first | exact J5 | refine J6 ?_)
  all_goals rfl
end
end Go.AM
