/-
  A part of the proof: contracts of functions.
-/
import Derived.Test.YtkpbdjpekjdhcaaGreatDoorRAW
import Derived.Test.YtkpbdjpekjdhcaaGreatDoorRAL
import Derived.Test.YtkpbdjpekjdhcaaGreatDoorRAI
set_option linter.unusedSectionVars false
set_option linter.unusedVariables false
set_option linter.unusedSimpArgs false
set_option maxRecDepth 100000
namespace Go.AM
open Go Go.Proofs
variable [Keep]
attribute [local irreducible] W WO WO1 WD WQ WT thenQ blockQ endR isRet retK Cl ClR
open Go.TX (Rm Fa Ha Hs)
attribute [local irreducible] runsB madeR madeF drawnP sumW
theorem all_at {α : Type} {p : α → Bool} {l : List α} {k : Nat} {x : α} (h : l[k]? = some x) (ha : (l.take k).all p = true) : (l.take (k + 1)).all p = p x := by rw [take_next h, List.all_append, ha]; simp
section
variable {c : Itr}
set_option maxHeartbeats 8000000 in
theorem C67 (hc : CxR c) (h67 : c 67 = none) (m : Hs) (x : Fk) (ra fa oa ha dv : AV) (g : List (List Int)) (hm : HsA m ra fa oa ha) (hg : lisV dv = some g) (nn : Nat) (hnn : m.hours = nn) (hn4 : nn ≤ 1000) (hgl : g.length = m.rooms.length) (hgr : ∀ r ∈ g, r.length = nn) (h : Heap) :
  Cl (dX c) 67 [.agg [.int .i64 m.hours, ra, fa, oa, ha], .agg [dv, .int .i64 x.what, .int .i64 x.num, .int .i64 x.hour]] h (.ret (.bool (fitsB m g)) h none) := by
 refine ClR.cl ?_
 have l1 := sl_len hm.r
 have m1 := sl_max hm.r
 have o1 := sl_out hm.r
 have o2 := sl_out hm.f
 have o3 := sl_out hm.o
 have o4 := sl_out hm.h
 have ld := lis_len hg
 have od := lis_out hg
 have HG := Lib.hid hg
 have H1 := Lib.hid hm.r
 have H84 := Lib.hid hc.h84
 have HGL := Lib.hid hgl
 have HGR := Lib.hid hgr
 have HN4 := Lib.hid hn4
 rw [hnn]
 clear hm hc hg hgl hgr hnn hn4
 refine ClR.walk (c := _) h67 Tryz.func67 rfl (by kernel_rfl) rfl (fun e => by cases e) ?_
 try simp only [entryEnv, Nat.reduceAdd, List.nil_append, List.cons_append, emptyHp]
 repeat' (first | refine goS ?_ | refine go2 (fun hh => ?_) (fun hh => ?_) | fail)
 refine W.loopH (m.rooms.length) [2, 3] [2, 3] (fun k e lm => e.get 5 = some (.int .i64 ↑k) ∧ ((List.range m.rooms.length).take k).all (rowFit m g) = true) ?_ ?_
 ·refine ⟨?_, ?_⟩ <;> first | exact Z2 | rfl | assumption | (simp [go_sem, *]; done)
 intro k e lm hk0 hce hcl hinv
 simp only [keepE, and_true] at hce
 obtain ⟨c2, c3⟩ := hce
 simp only [go_sem, *, Nat.reduceLT, Int.reduceEq, Int.reduceBEq, Int.reduceLE, Int.reduceLT, Nat.reduceAdd, Nat.reduceBEq, Nat.reduceEqDiff, reduceIte, Nat.reduceLeDiff, Nat.reduceMul, Nat.reduceSub, reduceCtorEq] at c2 c3
 simp only [keepL, and_true] at hcl
 obtain ⟨d2, d3⟩ := hcl
 simp only [go_sem, *, Nat.reduceLT, Int.reduceEq, Int.reduceBEq, Int.reduceLE, Int.reduceLT, Nat.reduceAdd, Nat.reduceBEq, Nat.reduceEqDiff, reduceIte, Nat.reduceLeDiff, Nat.reduceMul, Nat.reduceSub, reduceCtorEq] at d2 d3
 obtain ⟨h5, hal⟩ := hinv
 by_cases hlt : k < m.rooms.length
 ·have hd0 : decide ((k : Int) < ((m.rooms.length : Nat) : Int)) = true := by first | (simpa using hlt; done) | (simp only [decide_eq_true_eq]; omega)
  have hv_0 := wrap_succ hlt m1
  obtain ⟨p, hp'⟩ := get_some hlt
  have hix := fun H => rms_idx H1.out hp' H
  obtain ⟨r, hr⟩ := get_some (l := g) (k := k) (by have := HGL.out; omega)
  obtain ⟨b, hb1, hb2⟩ := lis_idx HG.out hr
  have lb := sl_len hb1
  have ob := sl_out hb1
  have hcb := (slV_is hb1).1.cells
  have htb := (slV_is hb1).1.tup
  simp only [AV.cells] at hcb
  simp only [isTuple] at htb
  have hrl := HGR.out r (List.mem_of_getElem? hr)
  have hrf : rowFit m g k = r.all fun n => inB n p.lo p.hi := by
   unfold rowFit; simp only [List.getD, hr, hp', Option.getD_some]
  have hnx := all_at (p := rowFit m g) (l := List.range m.rooms.length) (k := k) (x := k) (by rw [List.getElem?_range hlt]) hal
  rw [hrf] at hnx
  have HNX := Lib.hid hnx
  have HRF := Lib.hid hrf
  have HB1 := Lib.hid hb1
  have HRL := Lib.hid hrl
  have HLT0 := Lib.hid hlt
  clear hp' hr hb1 hrl hrf hnx hal hlt
  repeat' (first | refine goS ?_ | refine go2 (fun hh => ?_) (fun hh => ?_) | fail)
  refine W.loopH (nn) [2, 3, 5] [2, 3] (fun j e1 lm1 => e1.get 6 = some (.int .i64 ↑j) ∧ (r.take j).all (fun n => inB n p.lo p.hi) = true) ?_ ?_
  ·refine ⟨?_, ?_⟩ <;> first | exact Z2 | rfl | assumption | (simp [go_sem, *]; done)
  intro j e1 lm1 hk1 hce hcl hinv
  simp only [keepE, and_true] at hce
  obtain ⟨c2, c3, c5⟩ := hce
  simp only [go_sem, *, Nat.reduceLT, Int.reduceEq, Int.reduceBEq, Int.reduceLE, Int.reduceLT, Nat.reduceAdd, Nat.reduceBEq, Nat.reduceEqDiff, reduceIte, Nat.reduceLeDiff, Nat.reduceMul, Nat.reduceSub, reduceCtorEq] at c2 c3 c5
  simp only [keepL, and_true] at hcl
  obtain ⟨d2, d3⟩ := hcl
  simp only [go_sem, *, Nat.reduceLT, Int.reduceEq, Int.reduceBEq, Int.reduceLE, Int.reduceLT, Nat.reduceAdd, Nat.reduceBEq, Nat.reduceEqDiff, reduceIte, Nat.reduceLeDiff, Nat.reduceMul, Nat.reduceSub, reduceCtorEq] at d2 d3
  obtain ⟨h6, hal1⟩ := hinv
  by_cases hjt : j < nn
  ·have hd1 : decide ((j : Int) < ((nn : Nat) : Int)) = true := by first | (simpa using hjt; done) | (simp only [decide_eq_true_eq]; omega)
   have hv_1 := wrap_succ hjt (by have := HN4.out; unfold maxL; omega)
   obtain ⟨n, hn⟩ := get_some (l := r) (k := j) (by have := HRL.out; omega)
   have hixn := fun H => ints_idx HB1.out hn H
   have hnx := all_at hn hal1
   have k84 := K84 (X := dX c) H84.out n p.lo p.hi
   have HNX1 := Lib.hid hnx
   have HNN := Lib.hid hn
   have HLT1 := Lib.hid hjt
   clear hnx hal1 hjt hn
   cases hq : inB n p.lo p.hi with
   | true =>
    rw [hq] at k84
    repeat' (first | (apply W.drawQ (id := 7) (l1 := [0, 1, 2, 3, 4, 5, 6, 7, 8, 9, 10, 11, 12, 13, 14, 15, 16, 17, 18, 19, 20, 21, 22, 23]) (l2 := []); kernel_rfl; kernel_rfl; kernel_rfl; exact Z4) | refine go1 ?_ | (apply U6; exact Z1; exact Z1; (focus (simp only [List.nil_append, List.append_nil]; first | exact k84 _)); simp only [pM, pN, rR, rP]) | refine go2 (fun hh => ?_) (fun hh => ?_) | fail)
    all_goals refine contH_mk (by first | assumption | exact HLT1.out) (by simp only [keepE, and_true, and_self, go_sem, *, Nat.reduceLT, Int.reduceEq, Int.reduceBEq, Int.reduceLE, Int.reduceLT, Nat.reduceAdd, Nat.reduceBEq, Nat.reduceEqDiff, reduceIte, Nat.reduceLeDiff, Nat.reduceMul, Nat.reduceSub, reduceCtorEq]) (by simp only [keepL, and_true, and_self, go_sem, *, Nat.reduceLT, Int.reduceEq, Int.reduceBEq, Int.reduceLE, Int.reduceLT, Nat.reduceAdd, Nat.reduceBEq, Nat.reduceEqDiff, reduceIte, Nat.reduceLeDiff, Nat.reduceMul, Nat.reduceSub, reduceCtorEq]) ?_
    all_goals refine ⟨?_, ?_⟩
    all_goals first | exact Z2 | skip
    all_goals exact HNX1.out.trans hq
   | false =>
    rw [hq] at k84
    have hno : fitsB m g = false := by
     unfold fitsB
     rw [List.all_eq_false]
     refine ⟨k, List.mem_range.2 HLT0.out, ?_⟩
     rw [HRF.out, Bool.not_eq_true, List.all_eq_false]
     exact ⟨n, List.mem_of_getElem? HNN.out, by rw [hq]; simp⟩
    rw [hno]
    clear hno
    repeat' (first | (apply W.drawQ (id := 7) (l1 := [0, 1, 2, 3, 4, 5, 6, 7, 8, 9, 10, 11, 12, 13, 14, 15, 16, 17, 18, 19, 20, 21, 22, 23]) (l2 := []); kernel_rfl; kernel_rfl; kernel_rfl; exact Z4) | refine go1 ?_ | (apply U6; exact Z1; exact Z1; (focus (simp only [List.nil_append, List.append_nil]; first | exact k84 _)); simp only [pM, pN, rR, rP]) | refine go2 (fun hh => ?_) (fun hh => ?_) | fail)
    all_goals (simp only [resV_def (X := dX c) Tryz.func67, Tryz.results67]; first | exact J5 | refine J6 ?_)
    all_goals rfl
  ·have hd1 : decide ((j : Int) < ((nn : Nat) : Int)) = false := by first | (simpa using hjt; done) | (simp only [decide_eq_false_iff_not]; omega)
   obtain rfl : j = nn := by omega
   rw [List.take_of_length_le (by have := HRL.out; omega)] at hal1
   have HA1 := Lib.hid hal1
   clear hal1
   repeat' (first | refine goS ?_ | refine go2 (fun hh => ?_) (fun hh => ?_) | fail)
   all_goals refine contH_mk (by first | assumption | exact HLT1.out) (by simp only [keepE, and_true, and_self, go_sem, *, Nat.reduceLT, Int.reduceEq, Int.reduceBEq, Int.reduceLE, Int.reduceLT, Nat.reduceAdd, Nat.reduceBEq, Nat.reduceEqDiff, reduceIte, Nat.reduceLeDiff, Nat.reduceMul, Nat.reduceSub, reduceCtorEq]) (by simp only [keepL, and_true, and_self, go_sem, *, Nat.reduceLT, Int.reduceEq, Int.reduceBEq, Int.reduceLE, Int.reduceLT, Nat.reduceAdd, Nat.reduceBEq, Nat.reduceEqDiff, reduceIte, Nat.reduceLeDiff, Nat.reduceMul, Nat.reduceSub, reduceCtorEq]) ?_
   all_goals refine ⟨?_, ?_⟩
   all_goals first | exact Z2 | skip
   all_goals exact HNX.out.trans HA1.out
 ·have hd0 : decide ((k : Int) < ((m.rooms.length : Nat) : Int)) = false := by first | (simpa using hlt; done) | (simp only [decide_eq_false_iff_not]; omega)
  obtain rfl : k = m.rooms.length := by omega
  have hrr : (List.range m.rooms.length).take m.rooms.length = List.range m.rooms.length := List.take_of_length_le (by simp)
  rw [hrr] at hal
  have hfin : fitsB m g = true := hal
  rw [hfin]
  clear hal hrr hfin
  repeat' (first | refine goS ?_ | refine go2 (fun hh => ?_) (fun hh => ?_) | fail)
  all_goals (simp only [resV_def (X := dX c) Tryz.func67, Tryz.results67]; first | exact J5 | refine J6 ?_)
  all_goals rfl
end
end Go.AM
namespace Go.AM
open Go Go.Proofs
variable [Keep]
attribute [local irreducible] W WO WO1 WD WQ WT thenQ blockQ endR isRet retK Cl ClR
open Go.TX (Rm Fa Ha Hs)
def pathB (m : Hs) (p : List Int) : Bool := ((p.length : Int) == m.hours) && p.all fun r => inB r (-1) (w64 (m.rooms.length - 1))
def walkR (b : Bool) (h : Heap) (r : COut) : Prop := if b = true then r = .ret (.tuple []) h none else ∃ x, r = .pan (.iface 205 (.agg [.int .i64 x])) h none
theorem walkR_fail {b : Bool} {h : Heap} : ¬ walkR b h .fail := by
 unfold walkR
 split
 ·intro e; cases e
 ·rintro ⟨_, e⟩; cases e
attribute [local irreducible] walkR
theorem walkR_t {h : Heap} : walkR true h (.ret (.tuple []) h none) := by unfold walkR; simp
theorem walkR_f {h : Heap} {x : Int} : walkR false h (.pan (.iface 205 (.agg [.int .i64 x])) h none) := by unfold walkR; simp
section
variable {c : Itr}
set_option maxHeartbeats 4000000 in
theorem C170 (h170 : c 170 = none) (h102 : c 102 = some (pureFn sp102)) (m : Hs) (ra fa oa ha pa : AV) (p : List Int) (hm : HsA m ra fa oa ha) (hp : slV intC pa = some p) (h : Heap) :
  ClR (dX c) 170 [.agg [.int .i64 m.hours, ra, fa, oa, ha], pa] h (walkR (pathB m p) h) := by
 have l1 := sl_len hm.r
 have o1 := sl_out hm.r
 have o2 := sl_out hm.f
 have o3 := sl_out hm.o
 have o4 := sl_out hm.h
 have lp := sl_len hp
 have op := sl_out hp
 have mp := sl_max hp
 have HP := Lib.hid hp
 have k102 := fun x h => K102 (X := dX c) h102 x (-1) (IntKind.i64.wrap (m.rooms.length - 1)) h
 have K1 := Lib.hid k102
 have hS : pathB m p = (((p.length : Int) == m.hours) && p.all fun r => inB r (-1) (IntKind.i64.wrap (m.rooms.length - 1))) := rfl
 rw [hS]
 clear hm hp k102 hS
 cases hq : ((p.length : Int) == m.hours) with
 | false =>
  have hq' : ((p.length : Int) != m.hours) = true := by rw [bne, hq]; rfl
  rw [Bool.false_and]
  refine ClR.walk (c := _) h170 Tryz.func170 rfl (by kernel_rfl) rfl walkR_fail ?_
  try simp only [entryEnv, Nat.reduceAdd, List.nil_append, List.cons_append, emptyHp]
  repeat' (first | (apply WO1.panic; exact rfl; (focus (intro cl rd; simp only [go_sem, *, Nat.reduceLT, Int.reduceEq, Int.reduceBEq, Int.reduceLE, Int.reduceLT, Nat.reduceAdd, Nat.reduceBEq, Nat.reduceEqDiff, reduceIte, Nat.reduceLeDiff, Nat.reduceMul, Nat.reduceSub, reduceCtorEq, efV, Fr.panicE]; with_reducible rfl)); simp only [tP, bP, eP, true_and]) | refine go1 ?_ | refine go2 (fun hh => ?_) (fun hh => ?_) | fail)
  all_goals exact walkR_f
 | true =>
  have hq' : ((p.length : Int) != m.hours) = false := by rw [bne, hq]; rfl
  rw [Bool.true_and]
  refine ClR.walk (c := _) h170 Tryz.func170 rfl (by kernel_rfl) rfl walkR_fail ?_
  try simp only [entryEnv, Nat.reduceAdd, List.nil_append, List.cons_append, emptyHp]
  repeat' (first | (apply WO1.panic; exact rfl; (focus (intro cl rd; simp only [go_sem, *, Nat.reduceLT, Int.reduceEq, Int.reduceBEq, Int.reduceLE, Int.reduceLT, Nat.reduceAdd, Nat.reduceBEq, Nat.reduceEqDiff, reduceIte, Nat.reduceLeDiff, Nat.reduceMul, Nat.reduceSub, reduceCtorEq, efV, Fr.panicE]; with_reducible rfl)); simp only [tP, bP, eP, true_and]) | refine go1 ?_ | refine go2 (fun hh => ?_) (fun hh => ?_) | fail)
  refine W.loopH (p.length) [2, 15, 16] [2] (fun k e lm => e.get 17 = some (.int .i64 ↑k) ∧ (p.take k).all (fun r => inB r (-1) (IntKind.i64.wrap (m.rooms.length - 1))) = true) ?_ ?_
  ·skip
   refine ⟨?_, ?_⟩
   all_goals first | exact Z2 | (simp [go_sem, *]; done) | skip
   all_goals rfl
  intro k e lm hk0 hce hcl hinv
  simp only [keepE, and_true] at hce
  obtain ⟨c2, c15, c16⟩ := hce
  simp only [go_sem, *, Nat.reduceLT, Int.reduceEq, Int.reduceBEq, Int.reduceLE, Int.reduceLT, Nat.reduceAdd, Nat.reduceBEq, Nat.reduceEqDiff, reduceIte, Nat.reduceLeDiff, Nat.reduceMul, Nat.reduceSub, reduceCtorEq] at c2 c15 c16
  simp only [keepL, and_true] at hcl
  have d2 := hcl
  clear hcl
  simp only [go_sem, *, Nat.reduceLT, Int.reduceEq, Int.reduceBEq, Int.reduceLE, Int.reduceLT, Nat.reduceAdd, Nat.reduceBEq, Nat.reduceEqDiff, reduceIte, Nat.reduceLeDiff, Nat.reduceMul, Nat.reduceSub, reduceCtorEq] at d2
  obtain ⟨h17, hal⟩ := hinv
  by_cases hlt : k < p.length
  ·have hd0 : decide ((k : Int) < ((p.length : Nat) : Int)) = true := by first | (simpa using hlt; done) | (simp only [decide_eq_true_eq]; omega)
   have hv_0 := wrap_succ hlt mp
   obtain ⟨n, hn⟩ := get_some hlt
   have hix := fun H => ints_idx HP.out hn H
   have hnx := all_at hn hal
   have k102 := K1.out n
   have HNX := Lib.hid hnx
   have HNN := Lib.hid hn
   have HLT0 := Lib.hid hlt
   clear hn hnx hal hlt
   cases hb : inB n (-1) (IntKind.i64.wrap (m.rooms.length - 1)) with
   | true =>
    rw [hb] at k102
    repeat' (first | (apply WO1.panic; exact rfl; (focus (intro cl rd; simp only [go_sem, *, Nat.reduceLT, Int.reduceEq, Int.reduceBEq, Int.reduceLE, Int.reduceLT, Nat.reduceAdd, Nat.reduceBEq, Nat.reduceEqDiff, reduceIte, Nat.reduceLeDiff, Nat.reduceMul, Nat.reduceSub, reduceCtorEq, efV, Fr.panicE]; with_reducible rfl)); simp only [tP, bP, eP, true_and]) | refine go1 ?_ | (apply U6; exact Z1; exact Z1; (focus (simp only [List.nil_append, List.append_nil]; first | exact k102 _)); simp only [pM, pN, rR, rP]) | refine go2 (fun hh => ?_) (fun hh => ?_) | fail)
    all_goals refine contH_mk (by first | assumption | exact HLT0.out) (by simp only [keepE, and_true, and_self, go_sem, *, Nat.reduceLT, Int.reduceEq, Int.reduceBEq, Int.reduceLE, Int.reduceLT, Nat.reduceAdd, Nat.reduceBEq, Nat.reduceEqDiff, reduceIte, Nat.reduceLeDiff, Nat.reduceMul, Nat.reduceSub, reduceCtorEq]) (by simp only [keepL, and_true, and_self, go_sem, *, Nat.reduceLT, Int.reduceEq, Int.reduceBEq, Int.reduceLE, Int.reduceLT, Nat.reduceAdd, Nat.reduceBEq, Nat.reduceEqDiff, reduceIte, Nat.reduceLeDiff, Nat.reduceMul, Nat.reduceSub, reduceCtorEq]) ?_
    all_goals refine ⟨?_, ?_⟩
    all_goals first | exact Z2 | skip
    all_goals exact HNX.out.trans hb
   | false =>
    rw [hb] at k102
    have hno : (p.all fun r => inB r (-1) (IntKind.i64.wrap (m.rooms.length - 1))) = false := by
     rw [List.all_eq_false]
     exact ⟨n, List.mem_of_getElem? HNN.out, by rw [hb]; simp⟩
    rw [hno]
    clear hno
    repeat' (first | (apply WO1.panic; exact rfl; (focus (intro cl rd; simp only [go_sem, *, Nat.reduceLT, Int.reduceEq, Int.reduceBEq, Int.reduceLE, Int.reduceLT, Nat.reduceAdd, Nat.reduceBEq, Nat.reduceEqDiff, reduceIte, Nat.reduceLeDiff, Nat.reduceMul, Nat.reduceSub, reduceCtorEq, efV, Fr.panicE]; with_reducible rfl)); simp only [tP, bP, eP, true_and]) | refine go1 ?_ | (apply U6; exact Z1; exact Z1; (focus (simp only [List.nil_append, List.append_nil]; first | exact k102 _)); simp only [pM, pN, rR, rP]) | refine go2 (fun hh => ?_) (fun hh => ?_) | fail)
    all_goals exact walkR_f
  ·have hd0 : decide ((k : Int) < ((p.length : Nat) : Int)) = false := by first | (simpa using hlt; done) | (simp only [decide_eq_false_iff_not]; omega)
   obtain rfl : k = p.length := by omega
   rw [List.take_length] at hal
   rw [hal]
   clear hal
   repeat' (first | refine goS ?_ | refine go2 (fun hh => ?_) (fun hh => ?_) | fail)
   all_goals (simp only [eN])
   all_goals (simp only [resV_def (X := dX c) Tryz.func170, Tryz.results170]; first | exact J5 | refine J6 ?_)
   all_goals first | exact walkR_t | exact ⟨rfl, walkR_t⟩
end
noncomputable def cNS : Itr
 | 102 => some (pureFn sp102)
 | _ => none
theorem cNS_sound : Sound (dX cNS) := dX_sound (fun f g h => by
 unfold cNS at h
 split at h
 ·cases h; exact F102
 ·cases h)
def sp123 : List AV → Option AV
 | [x, pa] => match hsV x, slV intC pa with
  | some m, some p => some (.bool (pathB m p))
  | _, _ => none
 | _ => none
theorem p123 : ∀ args v, sp123 args = some v → v.pur = true := by
 intro args v h
 unfold sp123 at h
 split at h
 ·split at h
  ·cases h; rfl
  ·cases h
 ·cases h
set_option maxHeartbeats 2000000 in
theorem F123 : IntrFn Tryz.prog 123 (pureFn sp123) := by
 refine pure_fn (X := dX cNS) cNS_sound p123 ?_
 intro args v h
 unfold sp123 at h
 split at h
 ·rename_i xx pa
  split at h
  ·rename_i m p hm hp
   have h := Option.some.inj h
   subst h
   obtain ⟨ra, fa, oa, ha, rfl, hA⟩ := hs_parts' hm
   have o1 := sl_out hA.r
   have o2 := sl_out hA.f
   have o3 := sl_out hA.o
   have o4 := sl_out hA.h
   have op := sl_out hp
   have hcp := (slV_is hp).1.cells
   have htp := (slV_is hp).1.tup
   simp only [AV.cells] at hcp
   simp only [isTuple] at htp
   obtain ⟨mm, hmm⟩ : ∃ mm : Mp Blk, mm = (((Mp.nil : Mp Blk).set 0 (.var [.int .i64 m.hours, ra, fa, oa, ha])).set 1 (.var [pa])).set 2 (.var [.int .i64 0]) := ⟨_, rfl⟩
   have g0 : mm.get 0 = some (.var [.int .i64 m.hours, ra, fa, oa, ha]) := by rw [hmm]; simp
   have g1 : mm.get 1 = some (.var [pa]) := by rw [hmm]; simp
   have g2 : mm.get 2 = some (.var [.int .i64 0]) := by rw [hmm]; simp
   have hw := C170 (c := cNS) rfl rfl m ra fa oa ha pa p hA hp ⟨3, mm⟩
   unfold ClR walkR at hw
   obtain ⟨r, hcl, hr⟩ := hw
   clear hm hA hp
   cases hb : pathB m p with
   | true =>
    rw [hb] at hr
    simp only [if_true] at hr
    subst hr
    have h169 : Cl (dX cNS) 169 [.ptr 0 0, .ptr 1 0] ⟨3, mm⟩ (.ret (.tuple []) ⟨3, mm⟩ none) := by
     refine ClR.cl ?_
     clear hmm g2
     refine ClR.walk (c := _) rfl Tryz.func169 rfl (by kernel_rfl) rfl (fun e => by cases e) ?_
     try simp only [entryEnv, Nat.reduceAdd, List.nil_append, List.cons_append, emptyHp]
     repeat' (first | refine goS ?_ | (apply U6; exact Z1; exact Z1; (focus (simp only [List.nil_append, List.append_nil]; first | exact hcl)); simp only [pM, pN, rR, rP]) | refine go2 (fun hh => ?_) (fun hh => ?_) | fail)
     all_goals (first | simp only [eN, true_and] | skip)
     all_goals (simp only [resV_def (X := dX cNS) Tryz.func169, Tryz.results169]; first | exact J5 | refine J6 ?_)
     all_goals rfl
    rw [hmm] at h169
    have ht := C111n cNS rfl 169 [.ptr 0 0, .ptr 1 0] 2 _ 3 mm 0 (by rw [hmm]; exact h169) g2
    unfold ClR tryR at ht
    obtain ⟨r, hct, ⟨yn, ym⟩, rfl, hy1, hy2⟩ := ht
    have q0 : ((0 : Int) == 0) = true := rfl
    clear hcl h169 g0 g1 g2 hmm hy1 hy2
    refine ClR.walk (c := _) rfl Tryz.func123 rfl (by kernel_rfl) rfl isRet_fail ?_
    try simp only [entryEnv, Nat.reduceAdd, List.nil_append, List.cons_append, emptyHp]
    repeat' (first | refine goS ?_ | (apply U6; exact Z1; exact Z1; (focus (simp only [List.nil_append, List.append_nil]; first | exact hct)); simp only [pM, pN, rR, rP]) | refine go2 (fun hh => ?_) (fun hh => ?_) | fail)
    all_goals (simp only [resV_def (X := dX cNS) Tryz.func123, Tryz.results123]; first | exact J5 | refine J6 ?_)
    all_goals rfl
   | false =>
    rw [hb] at hr
    simp only [Bool.false_eq_true, if_false] at hr
    obtain ⟨x, rfl⟩ := hr
    have h169 : Cl (dX cNS) 169 [.ptr 0 0, .ptr 1 0] ⟨3, mm⟩ (.pan (.iface 205 (.agg [.int .i64 x])) ⟨3, mm⟩ none) := by
     refine ClR.cl ?_
     clear hmm g2
     refine ClR.walk (c := _) rfl Tryz.func169 rfl (by kernel_rfl) rfl (fun e => by cases e) ?_
     try simp only [entryEnv, Nat.reduceAdd, List.nil_append, List.cons_append, emptyHp]
     repeat' (first | (simp only [tP, bP, eP, true_and]) | refine go1 ?_ | (apply U6; exact Z1; exact Z1; (focus (simp only [List.nil_append, List.append_nil]; first | exact hcl)); simp only [pM, pN, rR, rP]) | refine go2 (fun hh => ?_) (fun hh => ?_) | fail)
     all_goals rfl
    rw [hmm] at h169
    have ht := C111w cNS rfl 169 [.ptr 0 0, .ptr 1 0] 2 _ 3 mm x 0 (by rw [hmm]; exact h169) g2
    unfold ClR tryR at ht
    obtain ⟨r, hct, ⟨yn, ym⟩, rfl, hy1, hy2⟩ := ht
    have q0 : ((2 : Int) == 0) = false := rfl
    clear hcl h169 g0 g1 g2 hmm hy1 hy2
    refine ClR.walk (c := _) rfl Tryz.func123 rfl (by kernel_rfl) rfl isRet_fail ?_
    try simp only [entryEnv, Nat.reduceAdd, List.nil_append, List.cons_append, emptyHp]
    repeat' (first | refine goS ?_ | (apply U6; exact Z1; exact Z1; (focus (simp only [List.nil_append, List.append_nil]; first | exact hct)); simp only [pM, pN, rR, rP]) | refine go2 (fun hh => ?_) (fun hh => ?_) | fail)
    all_goals (simp only [resV_def (X := dX cNS) Tryz.func123, Tryz.results123]; first | exact J5 | refine J6 ?_)
    all_goals rfl
  ·cases h
 ·cases h
theorem K123 {X : Ctx} (hX : X.intr 123 = some (pureFn sp123)) {m : Hs} {ra fa oa ha pa : AV} {p : List Int} (hm : HsA m ra fa oa ha) (hp : slV intC pa = some p) (h : Heap) : Cl X 123 [.agg [.int .i64 m.hours, ra, fa, oa, ha], pa] h (.ret (.bool (pathB m p)) h none) :=
 Cl.intr hX (by
  have h1 := hm.pur
  have h2 := hm.hs
  simp only [pureFn, AV.purL, h1, sl_pur hp, Bool.and_self, if_true, sp123, h2, hp])
end Go.AM
namespace Go.AM
open Go Go.Proofs
variable [Keep]
attribute [local irreducible] W WO WO1 WD WQ WT thenQ blockQ endR isRet retK Cl ClR
open Go.TX (Rm Fa Ha Hs)
attribute [local irreducible] runsB madeR madeF drawnP sumW rowF nowF
theorem lisL_rows : ∀ (g : List (List Int)), (∀ l ∈ g, l.length ≤ maxL) → lisL (rowsE g) = some g
 | [], _ => rfl
 | l :: g, h => by
  have h1 : slV intC (slN (intsE l)) = some l := ints_sl l (h l (by simp))
  have h2 := lisL_rows g fun x hx => h x (by simp [hx])
  simp only [rowsE, List.map_cons] at h2 ⊢
  simp only [lisL, h1, h2]
theorem rows_lis {g : List (List Int)} (h : g.length ≤ maxL) (hm : ∀ l ∈ g, l.length ≤ maxL) : lisV (slN (rowsE g)) = some g := by
 have h1 := lisL_rows g hm
 cases g with
 | nil => rfl
 | cons a r =>
  show lisV (.vslice (rowsE (a :: r))) = _
  unfold lisV
  simp only
  rw [if_pos (by rw [rowsE_len]; exact h), h1]
theorem Blt.toN {h : Heap} {v : AV} {sz : Nat} {l : List AV} (q : Blt h v sz l) : BltN 0 h v sz l := by
 rcases q with q | ⟨id, h1, h2, h3, h4⟩
 ·exact .inl q
 ·exact .inr ⟨id, h1, h2, Nat.zero_le _, h3, h4⟩
def mdG (g : List (List Int)) (r : Nat) (k : Nat) : Int := (g.getD r []).getD k 0
def runL (m : Hs) (f : Fl) (g : List (List Int)) (nn : Nat) : Nat → List (List Int)
 | 0 => []
 | r + 1 => runL m f g nn r ++ [rowF m f r (mdG g r) nn]
theorem runL_len (m : Hs) (f : Fl) (g : List (List Int)) (nn : Nat) : ∀ r, (runL m f g nn r).length = r := by
 intro r
 induction r with
 | zero => rfl
 | succ r ih => simp [runL, ih]
theorem row_next (m : Hs) (f : Fl) (r : Nat) (md : Nat → Int) (k : Nat) : rowF m f r md (k + 1) = rowF m f r md k ++ [nowF m f r md (k + 1)] := by conv => lhs; unfold rowF
theorem now_next (m : Hs) (f : Fl) (r : Nat) (md : Nat → Int) (k : Nat) : nowF m f r md (k + 1) = maxV 0 (w64 ((if runsB m f r k = true then w64 (nowF m f r md k + md k) else nowF m f r md k) - sumW (drawnP m f r k m.fans.length))) := by conv => lhs; unfold nowF
theorem now_zero (m : Hs) (f : Fl) (r : Nat) (md : Nat → Int) : nowF m f r md 0 = (m.rooms.getD r rm0).stt := by unfold nowF; rfl
theorem row_zero (m : Hs) (f : Fl) (r : Nat) (md : Nat → Int) : rowF m f r md 0 = [] := by unfold rowF; rfl
theorem rowsE_map (g : List (List Int)) : slN ((g.map intsE).map slN) = slN (rowsE g) := by unfold rowsE; rw [List.map_map]; rfl
def sp78 : List AV → Option AV
 | [x, .agg [dv, .int .i64 w, .int .i64 a, .int .i64 b]] => match hsV x, lisV dv with
  | some m, some g => if (houseB m && sizedB m g ⟨w, a, b⟩) = true then (match findF ⟨w, a, b⟩ (failsH m) with
   | some f => some (slN (rowsE (runL m f g m.hours.toNat m.rooms.length)))
   | none => none) else none
  | _, _ => none
 | _ => none
theorem sized_is {m : Hs} {g : List (List Int)} {x : Fk} (h : sizedB m g x = true) : (∀ r ∈ g, (r.length : Int) = m.hours) ∧ g.length = m.rooms.length ∧ isFail m x = true := by
 unfold sizedB at h
 simp only [Bool.and_eq_true, List.all_eq_true, beq_iff_eq] at h
 exact ⟨h.1.1, by omega, h.2⟩
set_option maxHeartbeats 8000000 in
theorem R78 (m : Hs) (f : Fl) (ra fa oa ha dv : AV) (g : List (List Int)) (hm : HsA m ra fa oa ha) (hg : lisV dv = some g) (ho : HOk m) (hgl : g.length = m.rooms.length) (hgr : ∀ r ∈ g, (r.length : Int) = m.hours) :
  ClR (dX cR) 78 [.agg [.int .i64 m.hours, ra, fa, oa, ha], .agg [dv, .int .i64 f.tell.what, .int .i64 f.tell.num, .int .i64 f.tell.hour]] emptyHp (isQ (slN (rowsE (runL m f g m.hours.toNat m.rooms.length)))) := by
 obtain ⟨nn, hnn, hnt, hn1, hn4, hol⟩ := ho_parts ho
 have hr3 := ho.rooms
 have hf4 := ho.fans
 have l1 := sl_len hm.r
 have o1 := sl_out hm.r
 have o2 := sl_out hm.f
 have o3 := sl_out hm.o
 have o4 := sl_out hm.h
 have ld := lis_len hg
 have od := lis_out hg
 have hruns := fun (r k : Nat) (hrl : r < m.rooms.length) (hkl : k < nn) (h : Heap) => C109 hcR m f ra fa oa ha hm r k hrl (by omega) (ho_set ho) (by omega) h
 have hdraw := fun (r k : Nat) (h : Heap) => C128 hcR m f ra fa oa ha hm (by omega) r k h
 rw [hnt]
 rw [hnn] at hruns hdraw hgr ⊢
 have H1 := Lib.hid hm.r
 have HG := Lib.hid hg
 have HRUNS := Lib.hid hruns
 have HDRAW := Lib.hid hdraw
 have HN := Lib.hid hn4
 have HR := Lib.hid hr3
 have HGL := Lib.hid hgl
 have HGR := Lib.hid hgr
 have hmx : ∀ a b : Int, foldV maxV .i64 a [.int .i64 b] = some (.int .i64 (maxV a b)) := fun _ _ => rfl
 clear hm ho hruns hdraw hnt hnn hol hn1 hn4 hr3 hf4 hg hgl hgr
 simp only [fkC] at HRUNS HDRAW
 refine ClR.walk (c := _) rfl Tryz.func78 rfl (by kernel_rfl) rfl isQ_fail ?_
 try simp only [entryEnv, Nat.reduceAdd, List.nil_append, List.cons_append, emptyHp]
 repeat' (first | refine goS ?_ | refine go2 (fun hh => ?_) (fun hh => ?_) | fail)
 refine W.loopV (m.rooms.length) [2, 3] [2, 3] (fun k e lm hp => ∃ v, e.get 6 = some (.int .i64 ↑k) ∧ e.get 5 = some (v) ∧ Blt2 hp v 1 ((runL m f g nn k).map intsE)) ?_ ?_
 ·skip
  refine ⟨.nilslice, ?_, ?_, Blt2.nil⟩
  all_goals first | exact Z2 | (simp [go_sem, *]; done) | skip
 intro k e lm hp hk0 hce hcl hinv
 simp only [keepE, and_true] at hce
 obtain ⟨c2, c3⟩ := hce
 simp only [go_sem, *, Nat.reduceLT, Int.reduceEq, Int.reduceBEq, Int.reduceLE, Int.reduceLT, Nat.reduceAdd, Nat.reduceBEq, Nat.reduceEqDiff, reduceIte, Nat.reduceLeDiff, Nat.reduceMul, Nat.reduceSub, reduceCtorEq] at c2 c3
 simp only [keepL, and_true] at hcl
 obtain ⟨d2, d3⟩ := hcl
 simp only [go_sem, *, Nat.reduceLT, Int.reduceEq, Int.reduceBEq, Int.reduceLE, Int.reduceLT, Nat.reduceAdd, Nat.reduceBEq, Nat.reduceEqDiff, reduceIte, Nat.reduceLeDiff, Nat.reduceMul, Nat.reduceSub, reduceCtorEq] at d2 d3
 obtain ⟨v, h6, h5, hB⟩ := hinv
 by_cases hlt : k < m.rooms.length
 ·have hd0 : decide ((k : Int) < ((m.rooms.length : Nat) : Int)) = true := by first | (simpa using hlt; done) | (simp only [decide_eq_true_eq]; omega)
  have hv_0 := wrap_succ hlt (by have := HR.out; unfold maxL; omega)
  obtain ⟨p, hp'⟩ := get_some hlt
  have hix := fun H => rms_idx H1.out hp' H
  obtain ⟨r, hr⟩ := get_some (l := g) (k := k) (by have := HGL.out; omega)
  obtain ⟨b, hb1, hb2⟩ := lis_idx HG.out hr
  have ob := sl_out hb1
  have hcb := (slV_is hb1).1.cells
  have htb := (slV_is hb1).1.tup
  simp only [AV.cells] at hcb
  simp only [isTuple] at htb
  have hrl := HGR.out r (List.mem_of_getElem? hr)
  have hst : p.stt = nowF m f k (mdG g k) 0 := by rw [now_zero]; simp [List.getD, hp']
  have hmd : ∀ j n, r[j]? = some n → mdG g k j = n := by intro j n e; simp [mdG, List.getD, hr, e]
  have hbo := hB.out
  have HB0 := Lib.hid hB
  have HB1 := Lib.hid hb1
  have HRL := Lib.hid hrl
  have HMD := Lib.hid hmd
  have HLT0 := Lib.hid hlt
  clear hp' hr hb1 hrl hmd hlt hB
  repeat' (first | refine goS ?_ | refine go2 (fun hh => ?_) (fun hh => ?_) | fail)
  refine W.loopV (nn) [2, 3, 5, 6] [2, 3] (fun j e1 lm1 hp1 => ∃ u, e1.get 9 = some (.int .i64 ↑j) ∧ e1.get 7 = some (u) ∧ e1.get 8 = some (.int .i64 (nowF m f k (mdG g k) j)) ∧ BltN hp.next hp1 u 1 (intsE (rowF m f k (mdG g k) j)) ∧ HExt hp hp1) ?_ ?_
  ·skip
   refine ⟨.nilslice, ?_, ?_, ?_, ?_, HExt.refl _⟩
   all_goals first | exact Z2 | (simp [go_sem, *]; done) | skip
   ·rw [row_zero]; exact BltN.nil
  intro j e1 lm1 hp1 hk1 hce hcl hinv
  simp only [keepE, and_true] at hce
  obtain ⟨c2, c3, c5, c6⟩ := hce
  simp only [go_sem, *, Nat.reduceLT, Int.reduceEq, Int.reduceBEq, Int.reduceLE, Int.reduceLT, Nat.reduceAdd, Nat.reduceBEq, Nat.reduceEqDiff, reduceIte, Nat.reduceLeDiff, Nat.reduceMul, Nat.reduceSub, reduceCtorEq] at c2 c3 c5 c6
  simp only [keepL, and_true] at hcl
  obtain ⟨d2, d3⟩ := hcl
  simp only [go_sem, *, Nat.reduceLT, Int.reduceEq, Int.reduceBEq, Int.reduceLE, Int.reduceLT, Nat.reduceAdd, Nat.reduceBEq, Nat.reduceEqDiff, reduceIte, Nat.reduceLeDiff, Nat.reduceMul, Nat.reduceSub, reduceCtorEq] at d2 d3
  obtain ⟨u, h9, h7, h8, hB, hX⟩ := hinv
  by_cases hjt : j < nn
  ·have hd1 : decide ((j : Int) < ((nn : Nat) : Int)) = true := by first | (simpa using hjt; done) | (simp only [decide_eq_true_eq]; omega)
   have hv_1 := wrap_succ hjt (by have := HN.out; unfold maxL; omega)
   obtain ⟨n, hn⟩ := get_some (l := r) (k := j) (by have := HRL.out; omega)
   have hixn := fun H => ints_idx HB1.out hn H
   have hmd := HMD.out j n hn
   have hns := now_next m f k (mdG g k) j
   have k109 := fun h => HRUNS.out k j HLT0.out hjt h
   have k128 := fun h => HDRAW.out k j h
   have hbo1 := hB.blt.out
   have hll : (intsE (rowF m f k (mdG g k) j)).length + 1 ≤ most := by
    rw [intsE_len, row_len]; have := HN.out; unfold most; omega
   have hro := row_next m f k (mdG g k) j
   rw [hmd] at hns
   have HLT1 := Lib.hid hjt
   have HRO := Lib.hid hro
   clear hn hmd hjt hro
   generalize hq : nowF m f k (mdG g k) (j + 1) = y1 at *
   generalize nowF m f k (mdG g k) j = y0 at *
   have HQ := Lib.hid hq
   clear hq
   cases hb : runsB m f k j with
   | true =>
    rw [hb] at hns k109
    have hw : maxV 0 (IntKind.i64.wrap (IntKind.i64.wrap (y0 + n) - sumW (drawnP m f k j m.fans.length))) = y1 := by rw [hns]; rfl
    clear hns hb
    generalize sumW (drawnP m f k j m.fans.length) = sd at *
    repeat' (first | (apply WO1.appendN (t := 24) (u := 24) (e := 3) (e' := 3) (sz := 1) (tl := []) (hb := hB) (hx := HExt.pair hX); exact Z1; exact rfl; exact Z2; exact Z2; exact Z2; (focus (exact ty_row24)); exact Z1; (focus (intro v hv; simp at hv; subst hv; first | rfl | exact hsc)); (focus (simp only [List.length_map, List.length_cons, List.length_nil]; exact hll)); (focus (simp)); (intro v' h' hB' ho' hX'; have hcc' := hB'.blt.cells; have htt' := hB'.blt.tup; simp only [AV.cells] at hcc'; simp only [isTuple] at htt'; simp only [pM, pN])) | refine go1 ?_ | (apply U6; exact Z1; exact Z1; (focus (simp only [List.nil_append, List.append_nil]; first | exact k109 _ | exact k128 _)); simp only [pM, pN, rR, rP]) | refine go2 (fun hh => ?_) (fun hh => ?_) | fail)
    all_goals refine contV_mk (by first | assumption | exact HLT1.out) (by simp only [keepE, and_true, and_self, go_sem, *, Nat.reduceLT, Int.reduceEq, Int.reduceBEq, Int.reduceLE, Int.reduceLT, Nat.reduceAdd, Nat.reduceBEq, Nat.reduceEqDiff, reduceIte, Nat.reduceLeDiff, Nat.reduceMul, Nat.reduceSub, reduceCtorEq]) (by simp only [keepL, and_true, and_self, go_sem, *, Nat.reduceLT, Int.reduceEq, Int.reduceBEq, Int.reduceLE, Int.reduceLT, Nat.reduceAdd, Nat.reduceBEq, Nat.reduceEqDiff, reduceIte, Nat.reduceLeDiff, Nat.reduceMul, Nat.reduceSub, reduceCtorEq]) ?_
    all_goals refine ⟨v', ?_, ?_, ?_, ?_, hX'⟩
    all_goals first | exact Z2 | skip
    ·rw [HQ.out]; simp only [go_sem, *, Nat.reduceLT, Int.reduceEq, Int.reduceBEq, Int.reduceLE, Int.reduceLT, Nat.reduceAdd, Nat.reduceBEq, Nat.reduceEqDiff, reduceIte, Nat.reduceLeDiff, Nat.reduceMul, Nat.reduceSub, reduceCtorEq]
    ·rw [HRO.out, intsE_app]; exact hB'
   | false =>
    rw [hb] at hns k109
    have hw : maxV 0 (IntKind.i64.wrap (y0 - sumW (drawnP m f k j m.fans.length))) = y1 := by rw [hns]; rfl
    clear hns hb
    generalize sumW (drawnP m f k j m.fans.length) = sd at *
    repeat' (first | (apply WO1.appendN (t := 24) (u := 24) (e := 3) (e' := 3) (sz := 1) (tl := []) (hb := hB) (hx := HExt.pair hX); exact Z1; exact rfl; exact Z2; exact Z2; exact Z2; (focus (exact ty_row24)); exact Z1; (focus (intro v hv; simp at hv; subst hv; first | rfl | exact hsc)); (focus (simp only [List.length_map, List.length_cons, List.length_nil]; exact hll)); (focus (simp)); (intro v' h' hB' ho' hX'; have hcc' := hB'.blt.cells; have htt' := hB'.blt.tup; simp only [AV.cells] at hcc'; simp only [isTuple] at htt'; simp only [pM, pN])) | refine go1 ?_ | (apply U6; exact Z1; exact Z1; (focus (simp only [List.nil_append, List.append_nil]; first | exact k109 _ | exact k128 _)); simp only [pM, pN, rR, rP]) | refine go2 (fun hh => ?_) (fun hh => ?_) | fail)
    all_goals refine contV_mk (by first | assumption | exact HLT1.out) (by simp only [keepE, and_true, and_self, go_sem, *, Nat.reduceLT, Int.reduceEq, Int.reduceBEq, Int.reduceLE, Int.reduceLT, Nat.reduceAdd, Nat.reduceBEq, Nat.reduceEqDiff, reduceIte, Nat.reduceLeDiff, Nat.reduceMul, Nat.reduceSub, reduceCtorEq]) (by simp only [keepL, and_true, and_self, go_sem, *, Nat.reduceLT, Int.reduceEq, Int.reduceBEq, Int.reduceLE, Int.reduceLT, Nat.reduceAdd, Nat.reduceBEq, Nat.reduceEqDiff, reduceIte, Nat.reduceLeDiff, Nat.reduceMul, Nat.reduceSub, reduceCtorEq]) ?_
    all_goals refine ⟨v', ?_, ?_, ?_, ?_, hX'⟩
    all_goals first | exact Z2 | skip
    ·rw [HQ.out]; simp only [go_sem, *, Nat.reduceLT, Int.reduceEq, Int.reduceBEq, Int.reduceLE, Int.reduceLT, Nat.reduceAdd, Nat.reduceBEq, Nat.reduceEqDiff, reduceIte, Nat.reduceLeDiff, Nat.reduceMul, Nat.reduceSub, reduceCtorEq]
    ·rw [HRO.out, intsE_app]; exact hB'
  ·have hd1 : decide ((j : Int) < ((nn : Nat) : Int)) = false := by first | (simpa using hjt; done) | (simp only [decide_eq_false_iff_not]; omega)
   obtain rfl : j = nn := by omega
   have hB2 := HB0.out.keep hX
   have hin := InR.of (h0 := hp) hB HB0.out.below
   obtain ⟨el, hbl, hel, hall⟩ := hB2
   have hA := hbl.toN
   have hbo1 := hB.blt.out
   have hcc := hB.blt.cells
   have htt := hB.blt.tup
   have hsc : u.cells.length = 1 := by rw [hcc]; rfl
   simp only [AV.cells] at hcc
   simp only [isTuple] at htt
   have hll : el.length + 1 ≤ most := by rw [hel, List.length_map, runL_len]; have := HR.out; have := HLT0.out; unfold most; omega
   have HIN := Lib.hid hin
   have HEL := Lib.hid hel
   have HALL := Lib.hid hall
   clear hB hX hin hel hall hbl
   repeat' (first | (apply WO1.appendX (t := 36) (u := 36) (e := 24) (e' := 24) (sz := 1) (tl := []) (b := 0) (h0 := ⟨0, .nil⟩) (hb := hA) (hx := ⟨Nat.zero_le _, fun id h => absurd h (Nat.not_lt_zero id)⟩); exact Z1; exact rfl; exact Z2; exact Z2; exact Z2; (focus (exact ty_row36)); exact Z1; (focus (intro v hv; simp at hv; subst hv; first | rfl | exact hsc)); (focus (simp only [List.length_map, List.length_cons, List.length_nil]; exact hll)); (focus (simp)); (intro v' h' hB' ho' hK' hE' hX'; have hcc' := hB'.blt.cells; have htt' := hB'.blt.tup; simp only [AV.cells] at hcc'; simp only [isTuple] at htt'; simp only [pM, pN])) | refine go1 ?_ | refine go2 (fun hh => ?_) (fun hh => ?_) | fail)
   all_goals refine contV_mk (by first | assumption | exact HLT1.out) (by simp only [keepE, and_true, and_self, go_sem, *, Nat.reduceLT, Int.reduceEq, Int.reduceBEq, Int.reduceLE, Int.reduceLT, Nat.reduceAdd, Nat.reduceBEq, Nat.reduceEqDiff, reduceIte, Nat.reduceLeDiff, Nat.reduceMul, Nat.reduceSub, reduceCtorEq]) (by simp only [keepL, and_true, and_self, go_sem, *, Nat.reduceLT, Int.reduceEq, Int.reduceBEq, Int.reduceLE, Int.reduceLT, Nat.reduceAdd, Nat.reduceBEq, Nat.reduceEqDiff, reduceIte, Nat.reduceLeDiff, Nat.reduceMul, Nat.reduceSub, reduceCtorEq]) ?_
   all_goals refine ⟨v', ?_, ?_, ?_⟩
   all_goals first | exact Z2 | skip
   ·rw [runL, List.map_append]
    exact Blt2.app HALL.out HEL.out hK' hB'.blt hE' HIN.out
 ·have hd0 : decide ((k : Int) < ((m.rooms.length : Nat) : Int)) = false := by first | (simpa using hlt; done) | (simp only [decide_eq_false_iff_not]; omega)
  obtain rfl : k = m.rooms.length := by omega
  have hfr : Frz hp v (slN (rowsE (runL m f g nn m.rooms.length))) := by
   rw [← rowsE_map]
   refine hB.frz (fun l hl e he => ?_) (fun l hl e he x hx => ?_)
   ·obtain ⟨l', _, rfl⟩ := List.mem_map.1 hl
    obtain ⟨n, _, rfl⟩ := List.mem_map.1 he
    rfl
   ·obtain ⟨l', _, rfl⟩ := List.mem_map.1 hl
    obtain ⟨n, _, rfl⟩ := List.mem_map.1 he
    simp only [AV.cells, List.mem_singleton] at hx
    subst hx
    exact ⟨rfl, rfl⟩
  have hbo := hB.out
  have HFR := Lib.hid hfr
  clear hB hfr
  repeat' (first | refine goS ?_ | refine go2 (fun hh => ?_) (fun hh => ?_) | fail)
  all_goals (simp only [resV_def (X := dX cR) Tryz.func78, Tryz.results78]; first | exact J5 | refine J6 ?_)
  exact isQ_ret HFR.out
theorem F78 : IntrFn Tryz.prog 78 (newQ sp78) := newQ_fn (X := dX cR) cR_sound fun args v h => by
 unfold sp78 at h
 split at h
 ·split at h
  ·rename_i m g hm hg
   split at h
   ·rename_i hw
    simp only [Bool.and_eq_true] at hw
    split at h
    ·rename_i f hf
     have h := Option.some.inj h
     subst h
     obtain ⟨ra, fa, oa, ha, rfl, hA⟩ := hs_parts' hm
     obtain ⟨s1, s2, s3⟩ := sized_is hw.2
     obtain ⟨_, ht⟩ := find_some hf
     have := R78 m f ra fa oa ha _ g hA hg (house_ok hw.1) s2 s1
     rw [ht] at this
     exact this
    ·cases h
   ·cases h
  ·cases h
 ·cases h
end Go.AM
