/-
  A part of the proof: contracts of functions.
-/
import Derived.Test.YtkpbdjpekjdhcaaGreatDoorTAW
import Derived.Test.YtkpbdjpekjdhcaaGreatDoorTAL
import Derived.Test.YtkpbdjpekjdhcaaGreatDoorTAI
set_option linter.unusedSectionVars false
set_option linter.unusedVariables false
set_option linter.unusedSimpArgs false
set_option maxRecDepth 100000
namespace Go.AM
open Go Go.Proofs
variable [Keep]
attribute [local irreducible] W WO WO1 WD WQ WT thenQ blockQ endR isRet retK Cl ClR
open Go.TX (Rm Fa Ha Hs)
attribute [local irreducible] runsB madeR madeF drawnP sumW
theorem all_at {α : Type} {p : α → Bool} {l : List α} {k : Nat} {x : α} (h : l[k]? = some x) (ha : (l.take k).all p = true) : (l.take (k + 1)).all p = p x := by rw [take_next h, List.all_append, ha]; simp
section
variable {c : Itr}
set_option maxHeartbeats 8000000 in
theorem C67 (hc : CxR c) (h67 : c 67 = none) (m : Hs) (x : Fk) (ra fa oa ha dv : AV) (g : List (List Int)) (hm : HsA m ra fa oa ha) (hg : lisV dv = some g) (nn : Nat) (hnn : m.hours = nn) (hn4 : nn ≤ 1000) (hgl : g.length = m.rooms.length) (hgr : ∀ r ∈ g, r.length = nn) (h : Heap) :
  Cl (dX c) 67 [.agg [.int .i64 m.hours, ra, fa, oa, ha], .agg [dv, .int .i64 x.what, .int .i64 x.num, .int .i64 x.hour]] h (.ret (.bool (fitsB m g)) h none) := by
 refine ClR.cl ?_
 have l1 := sl_len hm.r
 have m1 := sl_max hm.r
 have o1 := sl_out hm.r
 have o2 := sl_out hm.f
 have o3 := sl_out hm.o
 have o4 := sl_out hm.h
 have ld := lis_len hg
 have od := lis_out hg
 have HG := Lib.hid hg
 have H1 := Lib.hid hm.r
 have H84 := Lib.hid hc.h84
 have HGL := Lib.hid hgl
 have HGR := Lib.hid hgr
 have HN4 := Lib.hid hn4
 rw [hnn]
 clear hm hc hg hgl hgr hnn hn4
 refine ClR.walk (c := _) h67 Tryz.func67 rfl (by kernel_rfl) rfl (fun e => by cases e) ?_
 try simp only [entryEnv, Nat.reduceAdd, List.nil_append, List.cons_append, emptyHp]
 repeat' (first | refine goS ?_ | refine go2 (fun hh => ?_) (fun hh => ?_) | fail)
 refine W.loopH (m.rooms.length) [2, 3] [2, 3] (fun k e lm => e.get 5 = some (.int .i64 ↑k) ∧ ((List.range m.rooms.length).take k).all (rowFit m g) = true) ?_ ?_
 ·refine ⟨?_, ?_⟩ <;> first | exact Z2 | rfl | assumption | (simp [go_sem, *]; done)
 intro k e lm hk0 hce hcl hinv
 simp only [keepE, and_true] at hce
 obtain ⟨c2, c3⟩ := hce
 simp only [go_sem, *, Nat.reduceLT, Int.reduceEq, Int.reduceBEq, Int.reduceLE, Int.reduceLT, Nat.reduceAdd, Nat.reduceBEq, Nat.reduceEqDiff, reduceIte, Nat.reduceLeDiff, Nat.reduceMul, Nat.reduceSub, reduceCtorEq] at c2 c3
 simp only [keepL, and_true] at hcl
 obtain ⟨d2, d3⟩ := hcl
 simp only [go_sem, *, Nat.reduceLT, Int.reduceEq, Int.reduceBEq, Int.reduceLE, Int.reduceLT, Nat.reduceAdd, Nat.reduceBEq, Nat.reduceEqDiff, reduceIte, Nat.reduceLeDiff, Nat.reduceMul, Nat.reduceSub, reduceCtorEq] at d2 d3
 obtain ⟨h5, hal⟩ := hinv
 by_cases hlt : k < m.rooms.length
 ·have hd0 : decide ((k : Int) < ((m.rooms.length : Nat) : Int)) = true := by first | (simpa using hlt; done) | (simp only [decide_eq_true_eq]; omega)
  have hv_0 := wrap_succ hlt m1
  obtain ⟨p, hp'⟩ := get_some hlt
  have hix := fun H => rms_idx H1.out hp' H
  obtain ⟨r, hr⟩ := get_some (l := g) (k := k) (by have := HGL.out; omega)
  obtain ⟨b, hb1, hb2⟩ := lis_idx HG.out hr
  have lb := sl_len hb1
  have ob := sl_out hb1
  have hcb := (slV_is hb1).1.cells
  have htb := (slV_is hb1).1.tup
  simp only [AV.cells] at hcb
  simp only [isTuple] at htb
  have hrl := HGR.out r (List.mem_of_getElem? hr)
  have hrf : rowFit m g k = r.all fun n => inB n p.lo p.hi := by
   unfold rowFit; simp only [List.getD, hr, hp', Option.getD_some]
  have hnx := all_at (p := rowFit m g) (l := List.range m.rooms.length) (k := k) (x := k) (by rw [List.getElem?_range hlt]) hal
  rw [hrf] at hnx
  have HNX := Lib.hid hnx
  have HRF := Lib.hid hrf
  have HB1 := Lib.hid hb1
  have HRL := Lib.hid hrl
  have HLT0 := Lib.hid hlt
  clear hp' hr hb1 hrl hrf hnx hal hlt
  repeat' (first | refine goS ?_ | refine go2 (fun hh => ?_) (fun hh => ?_) | fail)
  refine W.loopH (nn) [2, 3, 5] [2, 3] (fun j e1 lm1 => e1.get 6 = some (.int .i64 ↑j) ∧ (r.take j).all (fun n => inB n p.lo p.hi) = true) ?_ ?_
  ·refine ⟨?_, ?_⟩ <;> first | exact Z2 | rfl | assumption | (simp [go_sem, *]; done)
  intro j e1 lm1 hk1 hce hcl hinv
  simp only [keepE, and_true] at hce
  obtain ⟨c2, c3, c5⟩ := hce
  simp only [go_sem, *, Nat.reduceLT, Int.reduceEq, Int.reduceBEq, Int.reduceLE, Int.reduceLT, Nat.reduceAdd, Nat.reduceBEq, Nat.reduceEqDiff, reduceIte, Nat.reduceLeDiff, Nat.reduceMul, Nat.reduceSub, reduceCtorEq] at c2 c3 c5
  simp only [keepL, and_true] at hcl
  obtain ⟨d2, d3⟩ := hcl
  simp only [go_sem, *, Nat.reduceLT, Int.reduceEq, Int.reduceBEq, Int.reduceLE, Int.reduceLT, Nat.reduceAdd, Nat.reduceBEq, Nat.reduceEqDiff, reduceIte, Nat.reduceLeDiff, Nat.reduceMul, Nat.reduceSub, reduceCtorEq] at d2 d3
  obtain ⟨h6, hal1⟩ := hinv
  by_cases hjt : j < nn
  ·have hd1 : decide ((j : Int) < ((nn : Nat) : Int)) = true := by first | (simpa using hjt; done) | (simp only [decide_eq_true_eq]; omega)
   have hv_1 := wrap_succ hjt (by have := HN4.out; unfold maxL; omega)
   obtain ⟨n, hn⟩ := get_some (l := r) (k := j) (by have := HRL.out; omega)
   have hixn := fun H => ints_idx HB1.out hn H
   have hnx := all_at hn hal1
   have k84 := K84 (X := dX c) H84.out n p.lo p.hi
   have HNX1 := Lib.hid hnx
   have HNN := Lib.hid hn
   have HLT1 := Lib.hid hjt
   clear hnx hal1 hjt hn
   cases hq : inB n p.lo p.hi with
   | true =>
    rw [hq] at k84
    repeat' (first | (apply W.drawQ (id := 7) (l1 := [0, 1, 2, 3, 4, 5, 6, 7, 8, 9, 10, 11, 12, 13, 14, 15, 16, 17, 18, 19, 20, 21, 22, 23]) (l2 := []); kernel_rfl; kernel_rfl; kernel_rfl; exact Z4) | refine go1 ?_ | (apply U6; exact Z1; exact Z1; (focus (simp only [List.nil_append, List.append_nil]; first | exact k84 _)); simp only [pM, pN, rR, rP]) | refine go2 (fun hh => ?_) (fun hh => ?_) | fail)
    all_goals refine contH_mk (by first | assumption | exact HLT1.out) (by simp only [keepE, and_true, and_self, go_sem, *, Nat.reduceLT, Int.reduceEq, Int.reduceBEq, Int.reduceLE, Int.reduceLT, Nat.reduceAdd, Nat.reduceBEq, Nat.reduceEqDiff, reduceIte, Nat.reduceLeDiff, Nat.reduceMul, Nat.reduceSub, reduceCtorEq]) (by simp only [keepL, and_true, and_self, go_sem, *, Nat.reduceLT, Int.reduceEq, Int.reduceBEq, Int.reduceLE, Int.reduceLT, Nat.reduceAdd, Nat.reduceBEq, Nat.reduceEqDiff, reduceIte, Nat.reduceLeDiff, Nat.reduceMul, Nat.reduceSub, reduceCtorEq]) ?_
    all_goals refine ⟨?_, ?_⟩
    all_goals first | exact Z2 | skip
    all_goals exact HNX1.out.trans hq
   | false =>
    rw [hq] at k84
    have hno : fitsB m g = false := by
     unfold fitsB
     rw [List.all_eq_false]
     refine ⟨k, List.mem_range.2 HLT0.out, ?_⟩
     rw [HRF.out, Bool.not_eq_true, List.all_eq_false]
     exact ⟨n, List.mem_of_getElem? HNN.out, by rw [hq]; simp⟩
    rw [hno]
    clear hno
    repeat' (first | (apply W.drawQ (id := 7) (l1 := [0, 1, 2, 3, 4, 5, 6, 7, 8, 9, 10, 11, 12, 13, 14, 15, 16, 17, 18, 19, 20, 21, 22, 23]) (l2 := []); kernel_rfl; kernel_rfl; kernel_rfl; exact Z4) | refine go1 ?_ | (apply U6; exact Z1; exact Z1; (focus (simp only [List.nil_append, List.append_nil]; first | exact k84 _)); simp only [pM, pN, rR, rP]) | refine go2 (fun hh => ?_) (fun hh => ?_) | fail)
    all_goals (simp only [resV_def (X := dX c) Tryz.func67, Tryz.results67]; first | exact J5 | refine J6 ?_)
    all_goals rfl
  ·have hd1 : decide ((j : Int) < ((nn : Nat) : Int)) = false := by first | (simpa using hjt; done) | (simp only [decide_eq_false_iff_not]; omega)
   obtain rfl : j = nn := by omega
   rw [List.take_of_length_le (by have := HRL.out; omega)] at hal1
   have HA1 := Lib.hid hal1
   clear hal1
   repeat' (first | refine goS ?_ | refine go2 (fun hh => ?_) (fun hh => ?_) | fail)
   all_goals refine contH_mk (by first | assumption | exact HLT1.out) (by simp only [keepE, and_true, and_self, go_sem, *, Nat.reduceLT, Int.reduceEq, Int.reduceBEq, Int.reduceLE, Int.reduceLT, Nat.reduceAdd, Nat.reduceBEq, Nat.reduceEqDiff, reduceIte, Nat.reduceLeDiff, Nat.reduceMul, Nat.reduceSub, reduceCtorEq]) (by simp only [keepL, and_true, and_self, go_sem, *, Nat.reduceLT, Int.reduceEq, Int.reduceBEq, Int.reduceLE, Int.reduceLT, Nat.reduceAdd, Nat.reduceBEq, Nat.reduceEqDiff, reduceIte, Nat.reduceLeDiff, Nat.reduceMul, Nat.reduceSub, reduceCtorEq]) ?_
   all_goals refine ⟨?_, ?_⟩
   all_goals first | exact Z2 | skip
   all_goals exact HNX.out.trans HA1.out
 ·have hd0 : decide ((k : Int) < ((m.rooms.length : Nat) : Int)) = false := by first | (simpa using hlt; done) | (simp only [decide_eq_false_iff_not]; omega)
  obtain rfl : k = m.rooms.length := by omega
  have hrr : (List.range m.rooms.length).take m.rooms.length = List.range m.rooms.length := List.take_of_length_le (by simp)
  rw [hrr] at hal
  have hfin : fitsB m g = true := hal
  rw [hfin]
  clear hal hrr hfin
  repeat' (first | refine goS ?_ | refine go2 (fun hh => ?_) (fun hh => ?_) | fail)
  all_goals (simp only [resV_def (X := dX c) Tryz.func67, Tryz.results67]; first | exact J5 | refine J6 ?_)
  all_goals rfl
end
end Go.AM
namespace Go.AM
open Go Go.Proofs
variable [Keep]
attribute [local irreducible] W WO WO1 WD WQ WT thenQ blockQ endR isRet retK Cl ClR
open Go.TX (Rm Fa Ha Hs)
def pathB (m : Hs) (p : List Int) : Bool := ((p.length : Int) == m.hours) && p.all fun r => inB r (-1) (w64 (m.rooms.length - 1))
def walkR (b : Bool) (h : Heap) (r : COut) : Prop := if b = true then r = .ret (.tuple []) h none else ∃ x, r = .pan (.iface 205 (.agg [.int .i64 x])) h none
attribute [local irreducible] walkR
section
variable {c : Itr}
end
end Go.AM
namespace Go.AM
open Go Go.Proofs
variable [Keep]
attribute [local irreducible] W WO WO1 WD WQ WT thenQ blockQ endR isRet retK Cl ClR
open Go.TX (Rm Fa Ha Hs)
attribute [local irreducible] runsB madeR madeF drawnP sumW rowF nowF
theorem lisL_rows : ∀ (g : List (List Int)), (∀ l ∈ g, l.length ≤ maxL) → lisL (rowsE g) = some g
 | [], _ => rfl
 | l :: g, h => by
  have h1 : slV intC (slN (intsE l)) = some l := ints_sl l (h l (by simp))
  have h2 := lisL_rows g fun x hx => h x (by simp [hx])
  simp only [rowsE, List.map_cons] at h2 ⊢
  simp only [lisL, h1, h2]
theorem rows_lis {g : List (List Int)} (h : g.length ≤ maxL) (hm : ∀ l ∈ g, l.length ≤ maxL) : lisV (slN (rowsE g)) = some g := by
 have h1 := lisL_rows g hm
 cases g with
 | nil => rfl
 | cons a r =>
  show lisV (.vslice (rowsE (a :: r))) = _
  unfold lisV
  simp only
  rw [if_pos (by rw [rowsE_len]; exact h), h1]
theorem Blt.toN {h : Heap} {v : AV} {sz : Nat} {l : List AV} (q : Blt h v sz l) : BltN 0 h v sz l := by
 rcases q with q | ⟨id, h1, h2, h3, h4⟩
 ·exact .inl q
 ·exact .inr ⟨id, h1, h2, Nat.zero_le _, h3, h4⟩
def mdG (g : List (List Int)) (r : Nat) (k : Nat) : Int := (g.getD r []).getD k 0
def runL (m : Hs) (f : Fl) (g : List (List Int)) (nn : Nat) : Nat → List (List Int)
 | 0 => []
 | r + 1 => runL m f g nn r ++ [rowF m f r (mdG g r) nn]
theorem runL_len (m : Hs) (f : Fl) (g : List (List Int)) (nn : Nat) : ∀ r, (runL m f g nn r).length = r := by
 intro r
 induction r with
 | zero => rfl
 | succ r ih => simp [runL, ih]
theorem row_next (m : Hs) (f : Fl) (r : Nat) (md : Nat → Int) (k : Nat) : rowF m f r md (k + 1) = rowF m f r md k ++ [nowF m f r md (k + 1)] := by conv => lhs; unfold rowF
theorem now_next (m : Hs) (f : Fl) (r : Nat) (md : Nat → Int) (k : Nat) : nowF m f r md (k + 1) = maxV 0 (w64 ((if runsB m f r k = true then w64 (nowF m f r md k + md k) else nowF m f r md k) - sumW (drawnP m f r k m.fans.length))) := by conv => lhs; unfold nowF
theorem now_zero (m : Hs) (f : Fl) (r : Nat) (md : Nat → Int) : nowF m f r md 0 = (m.rooms.getD r rm0).stt := by unfold nowF; rfl
theorem row_zero (m : Hs) (f : Fl) (r : Nat) (md : Nat → Int) : rowF m f r md 0 = [] := by unfold rowF; rfl
theorem sized_is {m : Hs} {g : List (List Int)} {x : Fk} (h : sizedB m g x = true) : (∀ r ∈ g, (r.length : Int) = m.hours) ∧ g.length = m.rooms.length ∧ isFail m x = true := by
 unfold sizedB at h
 simp only [Bool.and_eq_true, List.all_eq_true, beq_iff_eq] at h
 exact ⟨h.1.1, by omega, h.2⟩
end Go.AM
