/-
  A part of the proof: contracts of functions.
-/
import Derived.Test.YtgihdicidaipmaaGreatDoorRAW
set_option linter.unusedSectionVars false
set_option linter.unusedVariables false
set_option linter.unusedSimpArgs false
set_option maxRecDepth 100000
set_option maxHeartbeats 16000000
namespace Go.AM
open Go Go.Proofs
variable [Keep]
attribute [local irreducible] W WO WO1 WD WQ WT thenQ blockQ endR isRet retK Cl ClR
attribute [local irreducible] roundQ RdR patC memP grownS setP cutF birF agrN sureM canM
def nowM (x : Mk) (s : Int) (there : Bool) : Mk := if there = true then ⟨x.spot, x.lo, minV x.hi s⟩ else ⟨x.spot, maxV x.lo (s + 1), x.hi⟩
def withB (mi gh : Int) (l : List Md) (m : Nat) (ms : List Mk) (s : Int) (seen : Nat) (k : Nat) (x : Mk) (there : Bool) : Bool :=
 decide ((nowM x s there).lo <= (nowM x s there).hi) && agrN mi gh (birthN l m) (sureM (ms.set k (nowM x s there)) s) (canM (ms.set k (nowM x s there)) s) seen
structure CxP (c : Itr) : Prop extends CxG c where
 h102 : c 102 = none
 h103 : c 103 = none
 h104 : c 104 = none
theorem spots_set {ms : List Mk} {k : Nat} {x y : Mk} (h : spotsOk ms = true) (hx : ms[k]? = some x) (hs : y.spot = x.spot) : spotsOk (ms.set k y) = true := by
 unfold spotsOk at *
 rw [List.all_eq_true] at *
 intro z hz
 rcases List.mem_or_eq_of_mem_set hz with hz | rfl
 ·exact h z hz
 ·rw [hs]
  exact h x (List.mem_of_getElem? hx)
section
variable {c : Itr}
attribute [local irreducible] spotsOk
theorem C102 (cx : CxP c) (mi gh : Int) (sa dv bv : AV) (od : outV (some dv) = some dv) (ob : outV (some bv) = some bv) (l : List Md) (m : Nat) (hml : m < l.length) (hll : l.length <= 1000) (es : List AV) (hsa : sa = .vslice es) (hel : es.length = l.length) (hes : ∀ e ∈ es, e.cells.length = 5) (p clo chi : Int) (ma la : AV) (ge : es[m]? = some (.agg [.int .i64 p, .int .i64 clo, .int .i64 chi, ma, la])) (ms : List Mk) (ls : List Ln) (v1 : slV mkC ma = some ms) (v2 : slV lnC la = some ls) (hok : spotsOk ms = true) (hm4 : ms.length <= 1000) (s : Int) (hs : 1 <= s /\ s <= 36) (seen : Nat) (hsn : seen < 256)
  (k : Nat) (x : Mk) (hx : ms[k]? = some x) (there : Bool) (hn : Nat) (hm0 : Mp Blk) (hO : OpO l dv bv ⟨hn, hm0⟩) (is im ist isn : Nat) (g1 : hm0.get is = some (.var [.int .i64 mi, .int .i64 gh, sa, dv, bv, .int .i64 (m : Int), .int .i64 s])) (g2 : hm0.get im = some (.var [.int .i64 (m : Int)])) (g3 : hm0.get ist = some (.var [.int .i64 s])) (g4 : hm0.get isn = some (.var [.int .i64 (seen : Int)]))
  (l1 : is < hn) (l2 : im < hn) (l3 : ist < hn) (l4 : isn < hn) :
  ClR (dX c) 102 [.int .i64 (k : Int), .bool there, .ptr is 0, .ptr im 0, .ptr ist 0, .ptr isn 0] ⟨hn, hm0⟩ (valR (.bool (withB mi gh l m ms s seen k x there)) ⟨hn, hm0⟩) := by
 subst hsa
 have hkl := (List.getElem?_eq_some_iff.1 hx).1
 have hne : es ≠ [] := by intro e; subst e; simp at ge
 have ol := sl_out v2
 obtain ⟨es3, hma, h3e⟩ : ∃ es3, ma = .vslice es3 /\ es3 = ms.map mkC.enc := by
  rcases (slV_is v1).1 with ⟨_, e⟩ | e
  ·have := congrArg List.length e
   simp at this
   subst this
   simp at hx
  ·exact ⟨_, e, rfl⟩
 subst hma
 have h3l : es3.length = ms.length := by rw [h3e]; simp
 have h3k : es3[k]? = some (.agg [.int .i64 x.spot, .int .i64 x.lo, .int .i64 x.hi]) := by rw [h3e, List.getElem?_map, hx]; rfl
 have hes3 : ∀ e ∈ es3, e.cells.length = 3 := fun e he => by
  rw [h3e] at he
  obtain ⟨y, _, rfl⟩ := List.mem_map.1 he
  rfl
 have hne3 : es3 ≠ [] := by intro e; rw [e] at h3k; simp at h3k
 have k103 := C103 (c := c) cx.h103 es hne hes (by unfold most; omega) ⟨hn, hm0⟩
 have k104 := C104 (c := c) cx.h104 es3 hne3 hes3 (by unfold most; omega) ⟨hn + 1, hm0.set hn (.rw 5 es)⟩
 rw [hel] at k103
 rw [h3l] at k104
 simp only [Heap.new] at k103 k104
 have he5 := fun hx (e : Heap.get hx hn = some (.rw 5 es)) => row_idx (t := 22) (e := 76) Tryz.underlying22 ty_lay76 e hml
 have he5b := fun hx (e : Heap.get hx hn = some (.rw 5 (es.set m (.agg [.int .i64 p, .int .i64 clo, .int .i64 chi, .row (hn + 1) 0 ms.length, la])))) => row_idx (t := 22) (e := 76) Tryz.underlying22 ty_lay76 e hml
 have he3 := fun hx (e : Heap.get hx (hn + 1) = some (.rw 3 es3)) => row_idx (t := 73) (e := 123) Tryz.underlying73 ty_lay123 e hkl
 have hst5 : (es.set m (.agg [.int .i64 p, .int .i64 clo, .int .i64 chi, .row (hn + 1) 0 ms.length, la]))[m]? = some (.agg [.int .i64 p, .int .i64 clo, .int .i64 chi, .row (hn + 1) 0 ms.length, la]) := by rw [List.getElem?_set_self (by omega)]
 have hvs : ∀ H : Heap, indexAddrV Tryz.prog H 22 (.vslice es) (.int .i64 (m : Int)) = some (.vptr [.int .i64 p, .int .i64 clo, .int .i64 chi, .vslice es3, la]) := fun H => (isSl.idx (es := es) (.inr rfl) (P := Tryz.prog) (hp := H) (t := 22) (k := m) Tryz.underlying22 ty_lay76 ge rfl)
 have r1 : (hn == is) = false := by rw [beq_eq_false_iff_ne]; omega
 have r2 : (hn == im) = false := by rw [beq_eq_false_iff_ne]; omega
 have r3 : (hn == ist) = false := by rw [beq_eq_false_iff_ne]; omega
 have r4 : (hn == isn) = false := by rw [beq_eq_false_iff_ne]; omega
 have r5 : (hn + 1 == is) = false := by rw [beq_eq_false_iff_ne]; omega
 have r6 : (hn + 1 == im) = false := by rw [beq_eq_false_iff_ne]; omega
 have r7 : (hn + 1 == ist) = false := by rw [beq_eq_false_iff_ne]; omega
 have r8 : (hn + 1 == isn) = false := by rw [beq_eq_false_iff_ne]; omega
 have hc := cx.h102
 have H3E := J1 h3e
 have H3L := J1 h3l
 have HEL := J1 hel
 clear h3e hne hne3 hes hes3
 have hw : IntKind.i64.wrap (s + 1) = s + 1 := wrap_small (by omega) (by omega)
 cases there with
 | true =>
  have hbd : withB mi gh l m ms s seen k x true = (decide (x.lo <= minV x.hi s) && agrN mi gh (birthN l m) (sureM (ms.set k ⟨x.spot, x.lo, minV x.hi s⟩) s) (canM (ms.set k ⟨x.spot, x.lo, minV x.hi s⟩) s) seen) := rfl
  rw [hbd]
  have hst3 : (es3.set k (.agg [.int .i64 x.spot, .int .i64 (x.lo), .int .i64 (minV x.hi s)]))[k]? = some (.agg [.int .i64 x.spot, .int .i64 (x.lo), .int .i64 (minV x.hi s)]) := by rw [List.getElem?_set_self (by omega)]
  obtain ⟨m7, hm7⟩ : ∃ m7 : Mp Blk, m7 = (((hm0.set hn (.rw 5 es)).set (hn + 1) (.rw 3 es3)).set hn (.rw 5 (es.set m (.agg [.int .i64 p, .int .i64 clo, .int .i64 chi, .row (hn + 1) 0 ms.length, la])))).set (hn + 1) (.rw 3 (es3.set k (.agg [.int .i64 x.spot, .int .i64 (x.lo), .int .i64 (minV x.hi s)]))) := ⟨_, rfl⟩
  have hx7 : HExt ⟨hn, hm0⟩ ⟨hn + 1 + 1, m7⟩ := ⟨by simp only; omega, fun id hid => by
   have hid' : id < hn := hid
   rw [hm7]
   exact J10⟩
  have k101 := C101r (c := c) cx.toCxG mi gh dv bv od l m hml (ms.set k ⟨x.spot, x.lo, minV x.hi s⟩) (spots_set hok hx rfl) s seen hsn (hn + 1 + 1) m7 (hO.keep hx7) hn (hn + 1) l.length ms.length (es.set m (.agg [.int .i64 p, .int .i64 clo, .int .i64 chi, .row (hn + 1) 0 ms.length, la])) (es3.set k (.agg [.int .i64 x.spot, .int .i64 (x.lo), .int .i64 (minV x.hi s)])) p clo chi la ls v2 hml (by rw [hm7]; (simp only [Heap.get_new, Heap.get_put, hp_get, Mp.get_set, reduceIte]; repeat (first | rw [if_pos rfl] | rw [if_neg (by omega)]))) hst5 (by rw [hm7]; (simp only [Heap.get_new, Heap.get_put, hp_get, Mp.get_set, reduceIte]; repeat (first | rw [if_pos rfl] | rw [if_neg (by omega)]))) (by rw [H3E.out, List.map_set]; rfl) (by simp) (by simp; unfold maxL; omega) (by omega) (by omega)
  unfold ClR at k101
  obtain ⟨r, k101, hz, rfl, hxz⟩ := k101
  have HF := J1 (hx7.trans hxz)
  have HF7 := J1 hx7
  rw [hm7] at k101 hx7
  have HF7 := J1 hx7
  generalize agrN mi gh (birthN l m) (sureM (ms.set k ⟨x.spot, x.lo, minV x.hi s⟩) s) (canM (ms.set k ⟨x.spot, x.lo, minV x.hi s⟩) s) seen = ag at *
  clear h3l hel hx7 hxz hm7 hO hbd v1 v2 hx hok
  cases hle : decide (x.lo <= minV x.hi s) with
  | false =>
   rw [Bool.false_and]
   refine wK hc Tryz.func102 rfl valR_fail ?_
   repeat' (first | refine gJ ?_ | (apply W.draw (id := 3) (lc := [0, 1, 2, 3, 4, 5, 6, 7, 8, 9, 10, 11, 12, 13, 14, 15, 16]) (hot := [(3, 13), (4, 13)]); kernel_rfl; kernel_rfl; kernel_rfl; exact Z4) | (apply WD.cons (o := ⟨some 28, _, _, _, _, none⟩); exact rfl; exact rfl) | (apply WD.cons (o := ⟨some 29, _, _, _, _, none⟩); exact rfl; exact rfl) | (apply WD.cons (o := ⟨some 30, _, _, _, _, none⟩); exact rfl; exact rfl) | (apply WD.cons (o := ⟨some 31, _, _, _, _, none⟩); exact rfl; exact rfl) | (apply WD.cons (o := ⟨some 32, _, _, _, _, none⟩); exact rfl; exact rfl) | (apply WD.cons (o := ⟨some 33, _, _, _, _, none⟩); exact rfl; exact rfl) | (apply WD.cons (o := ⟨some 34, _, _, _, _, none⟩); exact rfl; exact rfl) | (apply WD.cons (o := ⟨some 35, _, _, _, _, none⟩); exact rfl; exact rfl) | (apply WD.cons (o := ⟨none, .store 73 (.tmp 35) (.tmp 33), _, _, _, none⟩); exact rfl; exact rfl) | (refine WD.cons rfl rfl ?_) | (refine WD.nil ⟨?_, ?_⟩; rotate_left; simp only [tN, bN, eN, true_and]) | (refine calmR rfl rfl rfl rfl rfl ?_ ?_; (focus (first | exact Z2 | exact Z1))) | (refine calmE rfl rfl rfl rfl rfl ?_ ?_; (focus (first | exact Z2 | exact Z1))) | (with_reducible refine calmEnd) | (apply W.drawQ (id := 6) (l1 := [0, 1, 2, 3, 4, 5, 6, 7, 8]) (l2 := [9]); kernel_rfl; kernel_rfl; kernel_rfl; exact Z4) | (apply W.drawQ (id := 7) (l1 := [0, 1, 2, 3, 4, 5, 6, 7, 8, 9]) (l2 := [10]); kernel_rfl; kernel_rfl; kernel_rfl; exact Z4) | (apply W.drawQ (id := 8) (l1 := [0, 1, 2, 3, 4, 5, 6, 7, 8, 9, 10, 11, 12, 13, 14]) (l2 := []); kernel_rfl; kernel_rfl; kernel_rfl; exact Z4) | (apply U5; exact rfl; (focus (intro cl rd; simp only [go_sem, *, Nat.reduceLT, Int.reduceEq, Int.reduceBEq, Int.reduceLE, Int.reduceLT, Nat.reduceAdd, Nat.reduceBEq, Nat.reduceEqDiff, reduceIte, Nat.reduceLeDiff, Nat.reduceMul, Nat.reduceSub, reduceCtorEq, efV, Fr.storeE, AV.cells, isTuple, write_eptr, splice, asElem, isAggV]; with_reducible rfl)); simp only [pM, pN]) | refine go1 ?_ | refine uJ k103 ?_ | refine uJ k104 ?_ | (refine go2 ?_ ?_ <;> intro hh) | fail)
   all_goals (simp only [rV Tryz.func102, Tryz.results102]; first | exact J5 | refine J6 ?_)
   exact ⟨_, rfl, HF7.out⟩
  | true =>
   rw [Bool.true_and]
   refine wK hc Tryz.func102 rfl valR_fail ?_
   repeat' (first | refine gJ ?_ | (apply W.draw (id := 3) (lc := [0, 1, 2, 3, 4, 5, 6, 7, 8, 9, 10, 11, 12, 13, 14, 15, 16]) (hot := [(3, 13), (4, 13)]); kernel_rfl; kernel_rfl; kernel_rfl; exact Z4) | (apply WD.cons (o := ⟨some 28, _, _, _, _, none⟩); exact rfl; exact rfl) | (apply WD.cons (o := ⟨some 29, _, _, _, _, none⟩); exact rfl; exact rfl) | (apply WD.cons (o := ⟨some 30, _, _, _, _, none⟩); exact rfl; exact rfl) | (apply WD.cons (o := ⟨some 31, _, _, _, _, none⟩); exact rfl; exact rfl) | (apply WD.cons (o := ⟨some 32, _, _, _, _, none⟩); exact rfl; exact rfl) | (apply WD.cons (o := ⟨some 33, _, _, _, _, none⟩); exact rfl; exact rfl) | (apply WD.cons (o := ⟨some 34, _, _, _, _, none⟩); exact rfl; exact rfl) | (apply WD.cons (o := ⟨some 35, _, _, _, _, none⟩); exact rfl; exact rfl) | (apply WD.cons (o := ⟨none, .store 73 (.tmp 35) (.tmp 33), _, _, _, none⟩); exact rfl; exact rfl) | (refine WD.cons rfl rfl ?_) | (refine WD.nil ⟨?_, ?_⟩; rotate_left; simp only [tN, bN, eN, true_and]) | (refine calmR rfl rfl rfl rfl rfl ?_ ?_; (focus (first | exact Z2 | exact Z1))) | (refine calmE rfl rfl rfl rfl rfl ?_ ?_; (focus (first | exact Z2 | exact Z1))) | (with_reducible refine calmEnd) | (apply W.draw (id := 8) (lc := [0, 1, 2, 3, 4, 5, 6, 7, 8, 9, 10, 11, 12, 13, 14]) (hot := []); kernel_rfl; kernel_rfl; kernel_rfl; exact Z4) | (apply WD.cons (o := ⟨some 75, _, _, _, _, none⟩); exact rfl; exact rfl) | (apply WD.cons (o := ⟨some 76, _, _, _, _, none⟩); exact rfl; exact rfl) | (apply WD.cons (o := ⟨some 77, _, _, _, _, some (9, true)⟩); exact rfl; exact rfl) | (apply WD.cons (o := ⟨some 78, _, _, _, _, some (9, true)⟩); exact rfl; exact rfl) | (apply WD.cons (o := ⟨some 79, _, _, _, _, some (9, true)⟩); exact rfl; exact rfl) | (apply WD.cons (o := ⟨some 80, _, _, _, _, none⟩); exact rfl; exact rfl) | (apply WD.cons (o := ⟨some 8, _, _, _, _, none⟩); exact rfl; exact rfl) | (refine WD.cons rfl rfl ?_) | (refine WD.nil ⟨?_, ?_⟩; rotate_left; simp only [tN, bN, eN, true_and]) | (refine calmR rfl rfl rfl rfl rfl ?_ ?_; (focus (first | exact Z2 | exact Z1))) | (refine calmE rfl rfl rfl rfl rfl ?_ ?_; (focus (first | exact Z2 | exact Z1))) | (with_reducible refine calmEnd) | (apply W.drawQ (id := 6) (l1 := [0, 1, 2, 3, 4, 5, 6, 7, 8]) (l2 := [9]); kernel_rfl; kernel_rfl; kernel_rfl; exact Z4) | (apply W.drawQ (id := 7) (l1 := [0, 1, 2, 3, 4, 5, 6, 7, 8, 9]) (l2 := [10]); kernel_rfl; kernel_rfl; kernel_rfl; exact Z4) | (apply U5; exact rfl; (focus (intro cl rd; simp only [go_sem, *, Nat.reduceLT, Int.reduceEq, Int.reduceBEq, Int.reduceLE, Int.reduceLT, Nat.reduceAdd, Nat.reduceBEq, Nat.reduceEqDiff, reduceIte, Nat.reduceLeDiff, Nat.reduceMul, Nat.reduceSub, reduceCtorEq, efV, Fr.storeE, AV.cells, isTuple, write_eptr, splice, asElem, isAggV]; with_reducible rfl)); simp only [pM, pN]) | refine go1 ?_ | refine uJ k103 ?_ | refine uJ k104 ?_ | refine uJ k101 ?_ | (refine go2 ?_ ?_ <;> intro hh) | fail)
   all_goals (simp only [rV Tryz.func102, Tryz.results102]; first | exact J5 | refine J6 ?_)
   exact ⟨_, rfl, HF.out⟩
 | false =>
  have hbd : withB mi gh l m ms s seen k x false = (decide (maxV x.lo (s + 1) <= x.hi) && agrN mi gh (birthN l m) (sureM (ms.set k ⟨x.spot, maxV x.lo (s + 1), x.hi⟩) s) (canM (ms.set k ⟨x.spot, maxV x.lo (s + 1), x.hi⟩) s) seen) := rfl
  rw [hbd]
  have hst3 : (es3.set k (.agg [.int .i64 x.spot, .int .i64 (maxV x.lo (s + 1)), .int .i64 (x.hi)]))[k]? = some (.agg [.int .i64 x.spot, .int .i64 (maxV x.lo (s + 1)), .int .i64 (x.hi)]) := by rw [List.getElem?_set_self (by omega)]
  obtain ⟨m7, hm7⟩ : ∃ m7 : Mp Blk, m7 = (((hm0.set hn (.rw 5 es)).set (hn + 1) (.rw 3 es3)).set hn (.rw 5 (es.set m (.agg [.int .i64 p, .int .i64 clo, .int .i64 chi, .row (hn + 1) 0 ms.length, la])))).set (hn + 1) (.rw 3 (es3.set k (.agg [.int .i64 x.spot, .int .i64 (maxV x.lo (s + 1)), .int .i64 (x.hi)]))) := ⟨_, rfl⟩
  have hx7 : HExt ⟨hn, hm0⟩ ⟨hn + 1 + 1, m7⟩ := ⟨by simp only; omega, fun id hid => by
   have hid' : id < hn := hid
   rw [hm7]
   exact J10⟩
  have k101 := C101r (c := c) cx.toCxG mi gh dv bv od l m hml (ms.set k ⟨x.spot, maxV x.lo (s + 1), x.hi⟩) (spots_set hok hx rfl) s seen hsn (hn + 1 + 1) m7 (hO.keep hx7) hn (hn + 1) l.length ms.length (es.set m (.agg [.int .i64 p, .int .i64 clo, .int .i64 chi, .row (hn + 1) 0 ms.length, la])) (es3.set k (.agg [.int .i64 x.spot, .int .i64 (maxV x.lo (s + 1)), .int .i64 (x.hi)])) p clo chi la ls v2 hml (by rw [hm7]; (simp only [Heap.get_new, Heap.get_put, hp_get, Mp.get_set, reduceIte]; repeat (first | rw [if_pos rfl] | rw [if_neg (by omega)]))) hst5 (by rw [hm7]; (simp only [Heap.get_new, Heap.get_put, hp_get, Mp.get_set, reduceIte]; repeat (first | rw [if_pos rfl] | rw [if_neg (by omega)]))) (by rw [H3E.out, List.map_set]; rfl) (by simp) (by simp; unfold maxL; omega) (by omega) (by omega)
  unfold ClR at k101
  obtain ⟨r, k101, hz, rfl, hxz⟩ := k101
  have HF := J1 (hx7.trans hxz)
  have HF7 := J1 hx7
  rw [hm7] at k101 hx7
  have HF7 := J1 hx7
  generalize agrN mi gh (birthN l m) (sureM (ms.set k ⟨x.spot, maxV x.lo (s + 1), x.hi⟩) s) (canM (ms.set k ⟨x.spot, maxV x.lo (s + 1), x.hi⟩) s) seen = ag at *
  clear h3l hel hx7 hxz hm7 hO hbd v1 v2 hx hok
  cases hle : decide (maxV x.lo (s + 1) <= x.hi) with
  | false =>
   rw [Bool.false_and]
   refine wK hc Tryz.func102 rfl valR_fail ?_
   repeat' (first | refine gJ ?_ | (apply W.draw (id := 3) (lc := [0, 1, 2, 3, 4, 5, 6, 7, 8, 9, 10, 11, 12, 13, 14, 15, 16]) (hot := [(3, 13), (4, 13)]); kernel_rfl; kernel_rfl; kernel_rfl; exact Z4) | (apply WD.cons (o := ⟨some 28, _, _, _, _, none⟩); exact rfl; exact rfl) | (apply WD.cons (o := ⟨some 29, _, _, _, _, none⟩); exact rfl; exact rfl) | (apply WD.cons (o := ⟨some 30, _, _, _, _, none⟩); exact rfl; exact rfl) | (apply WD.cons (o := ⟨some 31, _, _, _, _, none⟩); exact rfl; exact rfl) | (apply WD.cons (o := ⟨some 32, _, _, _, _, none⟩); exact rfl; exact rfl) | (apply WD.cons (o := ⟨some 33, _, _, _, _, none⟩); exact rfl; exact rfl) | (apply WD.cons (o := ⟨some 34, _, _, _, _, none⟩); exact rfl; exact rfl) | (apply WD.cons (o := ⟨some 35, _, _, _, _, none⟩); exact rfl; exact rfl) | (apply WD.cons (o := ⟨none, .store 73 (.tmp 35) (.tmp 33), _, _, _, none⟩); exact rfl; exact rfl) | (refine WD.cons rfl rfl ?_) | (refine WD.nil ⟨?_, ?_⟩; rotate_left; simp only [tN, bN, eN, true_and]) | (refine calmR rfl rfl rfl rfl rfl ?_ ?_; (focus (first | exact Z2 | exact Z1))) | (refine calmE rfl rfl rfl rfl rfl ?_ ?_; (focus (first | exact Z2 | exact Z1))) | (with_reducible refine calmEnd) | (apply W.drawQ (id := 6) (l1 := [0, 1, 2, 3, 4, 5, 6, 7, 8]) (l2 := [9]); kernel_rfl; kernel_rfl; kernel_rfl; exact Z4) | (apply W.drawQ (id := 7) (l1 := [0, 1, 2, 3, 4, 5, 6, 7, 8, 9]) (l2 := [10]); kernel_rfl; kernel_rfl; kernel_rfl; exact Z4) | (apply W.drawQ (id := 8) (l1 := [0, 1, 2, 3, 4, 5, 6, 7, 8, 9, 10, 11, 12, 13, 14]) (l2 := []); kernel_rfl; kernel_rfl; kernel_rfl; exact Z4) | (apply U5; exact rfl; (focus (intro cl rd; simp only [go_sem, *, Nat.reduceLT, Int.reduceEq, Int.reduceBEq, Int.reduceLE, Int.reduceLT, Nat.reduceAdd, Nat.reduceBEq, Nat.reduceEqDiff, reduceIte, Nat.reduceLeDiff, Nat.reduceMul, Nat.reduceSub, reduceCtorEq, efV, Fr.storeE, AV.cells, isTuple, write_eptr, splice, asElem, isAggV]; with_reducible rfl)); simp only [pM, pN]) | refine go1 ?_ | refine uJ k103 ?_ | refine uJ k104 ?_ | (refine go2 ?_ ?_ <;> intro hh) | fail)
   all_goals (simp only [rV Tryz.func102, Tryz.results102]; first | exact J5 | refine J6 ?_)
   exact ⟨_, rfl, HF7.out⟩
  | true =>
   rw [Bool.true_and]
   refine wK hc Tryz.func102 rfl valR_fail ?_
   repeat' (first | refine gJ ?_ | (apply W.draw (id := 3) (lc := [0, 1, 2, 3, 4, 5, 6, 7, 8, 9, 10, 11, 12, 13, 14, 15, 16]) (hot := [(3, 13), (4, 13)]); kernel_rfl; kernel_rfl; kernel_rfl; exact Z4) | (apply WD.cons (o := ⟨some 28, _, _, _, _, none⟩); exact rfl; exact rfl) | (apply WD.cons (o := ⟨some 29, _, _, _, _, none⟩); exact rfl; exact rfl) | (apply WD.cons (o := ⟨some 30, _, _, _, _, none⟩); exact rfl; exact rfl) | (apply WD.cons (o := ⟨some 31, _, _, _, _, none⟩); exact rfl; exact rfl) | (apply WD.cons (o := ⟨some 32, _, _, _, _, none⟩); exact rfl; exact rfl) | (apply WD.cons (o := ⟨some 33, _, _, _, _, none⟩); exact rfl; exact rfl) | (apply WD.cons (o := ⟨some 34, _, _, _, _, none⟩); exact rfl; exact rfl) | (apply WD.cons (o := ⟨some 35, _, _, _, _, none⟩); exact rfl; exact rfl) | (apply WD.cons (o := ⟨none, .store 73 (.tmp 35) (.tmp 33), _, _, _, none⟩); exact rfl; exact rfl) | (refine WD.cons rfl rfl ?_) | (refine WD.nil ⟨?_, ?_⟩; rotate_left; simp only [tN, bN, eN, true_and]) | (refine calmR rfl rfl rfl rfl rfl ?_ ?_; (focus (first | exact Z2 | exact Z1))) | (refine calmE rfl rfl rfl rfl rfl ?_ ?_; (focus (first | exact Z2 | exact Z1))) | (with_reducible refine calmEnd) | (apply W.draw (id := 8) (lc := [0, 1, 2, 3, 4, 5, 6, 7, 8, 9, 10, 11, 12, 13, 14]) (hot := []); kernel_rfl; kernel_rfl; kernel_rfl; exact Z4) | (apply WD.cons (o := ⟨some 75, _, _, _, _, none⟩); exact rfl; exact rfl) | (apply WD.cons (o := ⟨some 76, _, _, _, _, none⟩); exact rfl; exact rfl) | (apply WD.cons (o := ⟨some 77, _, _, _, _, some (9, true)⟩); exact rfl; exact rfl) | (apply WD.cons (o := ⟨some 78, _, _, _, _, some (9, true)⟩); exact rfl; exact rfl) | (apply WD.cons (o := ⟨some 79, _, _, _, _, some (9, true)⟩); exact rfl; exact rfl) | (apply WD.cons (o := ⟨some 80, _, _, _, _, none⟩); exact rfl; exact rfl) | (apply WD.cons (o := ⟨some 8, _, _, _, _, none⟩); exact rfl; exact rfl) | (refine WD.cons rfl rfl ?_) | (refine WD.nil ⟨?_, ?_⟩; rotate_left; simp only [tN, bN, eN, true_and]) | (refine calmR rfl rfl rfl rfl rfl ?_ ?_; (focus (first | exact Z2 | exact Z1))) | (refine calmE rfl rfl rfl rfl rfl ?_ ?_; (focus (first | exact Z2 | exact Z1))) | (with_reducible refine calmEnd) | (apply W.drawQ (id := 6) (l1 := [0, 1, 2, 3, 4, 5, 6, 7, 8]) (l2 := [9]); kernel_rfl; kernel_rfl; kernel_rfl; exact Z4) | (apply W.drawQ (id := 7) (l1 := [0, 1, 2, 3, 4, 5, 6, 7, 8, 9]) (l2 := [10]); kernel_rfl; kernel_rfl; kernel_rfl; exact Z4) | (apply U5; exact rfl; (focus (intro cl rd; simp only [go_sem, *, Nat.reduceLT, Int.reduceEq, Int.reduceBEq, Int.reduceLE, Int.reduceLT, Nat.reduceAdd, Nat.reduceBEq, Nat.reduceEqDiff, reduceIte, Nat.reduceLeDiff, Nat.reduceMul, Nat.reduceSub, reduceCtorEq, efV, Fr.storeE, AV.cells, isTuple, write_eptr, splice, asElem, isAggV]; with_reducible rfl)); simp only [pM, pN]) | refine go1 ?_ | refine uJ k103 ?_ | refine uJ k104 ?_ | refine uJ k101 ?_ | (refine go2 ?_ ?_ <;> intro hh) | fail)
   all_goals (simp only [rV Tryz.func102, Tryz.results102]; first | exact J5 | refine J6 ?_)
   exact ⟨_, rfl, HF.out⟩
end
end Go.AM
