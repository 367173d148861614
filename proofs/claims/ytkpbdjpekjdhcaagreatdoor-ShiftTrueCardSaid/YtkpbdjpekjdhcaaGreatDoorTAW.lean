/-
  A part of the proof: contracts of functions.
-/
import Derived.Test.YtkpbdjpekjdhcaaGreatDoorTAK
import Derived.Test.YtkpbdjpekjdhcaaGreatDoorTAJ
import Derived.Test.YtkpbdjpekjdhcaaGreatDoorTAO
import Derived.Test.YtkpbdjpekjdhcaaGreatDoorTAH
set_option linter.unusedSectionVars false
set_option linter.unusedVariables false
set_option linter.unusedSimpArgs false
set_option maxRecDepth 100000
namespace Go.AM
open Go Go.Proofs
variable [Keep]
attribute [local irreducible] W WO WO1 WD WQ WT thenQ blockQ endR isRet retK Cl ClR
open Go.TX (Rm Fa Ha Hs)
attribute [local irreducible] runsB madeR madeF drawnP sumW
def sizedB (m : Hs) (g : List (List Int)) (x : Fk) : Bool := (g.all fun r => (r.length : Int) == m.hours) && ((g.length : Int) == m.rooms.length) && isFail m x
def rowFit (m : Hs) (g : List (List Int)) (i : Nat) : Bool := (g.getD i []).all fun n => inB n (m.rooms.getD i rm0).lo (m.rooms.getD i rm0).hi
def fitsB (m : Hs) (g : List (List Int)) : Bool := (List.range m.rooms.length).all (rowFit m g)
section
variable {c : Itr}
set_option maxHeartbeats 4000000 in
theorem C66 (hc : CxR c) (h66 : c 66 = none) (m : Hs) (x : Fk) (ra fa oa ha dv : AV) (g : List (List Int)) (hm : HsA m ra fa oa ha) (hg : lisV dv = some g) (h : Heap) :
  Cl (dX c) 66 [.agg [.int .i64 m.hours, ra, fa, oa, ha], .agg [dv, .int .i64 x.what, .int .i64 x.num, .int .i64 x.hour]] h (.ret (.bool (sizedB m g x)) h none) := by
 refine ClR.cl ?_
 have l1 := sl_len hm.r
 have o1 := sl_out hm.r
 have o2 := sl_out hm.f
 have o3 := sl_out hm.o
 have o4 := sl_out hm.h
 have ld := lis_len hg
 have od := lis_out hg
 have md := lis_max hg
 have k38 := fun h => C38 hc m x ra fa oa ha hm h
 have hS : sizedB m g x = ((g.all fun r => (r.length : Int) == m.hours) && (((g.length : Int) == m.rooms.length) && isFail m x)) := by unfold sizedB; rw [Bool.and_assoc]
 have HG := Lib.hid hg
 simp only [fkC] at k38
 rw [hS]
 clear hm hc hg hS
 generalize isFail m x = bf at *
 refine ClR.walk (c := _) h66 Tryz.func66 rfl (by kernel_rfl) rfl (fun e => by cases e) ?_
 simp only [entryEnv, Nat.reduceAdd, List.nil_append, List.cons_append, emptyHp]
 repeat' (first | refine goS ?_ | refine go2 (fun hh => ?_) (fun hh => ?_) | fail)
 refine W.loopH (g.length) [2, 3] [2, 3] (fun k e lm => e.get 5 = some (.int .i64 ↑k) ∧ (g.take k).all (fun r => (r.length : Int) == m.hours) = true) ?_ ?_
 ·refine ⟨?_, ?_⟩ <;> first | exact Z2 | rfl | assumption | (simp [go_sem, *]; done)
 intro k e lm hk0 hce hcl hinv
 simp only [keepE, and_true] at hce
 obtain ⟨c2, c3⟩ := hce
 simp only [go_sem, *, Nat.reduceLT, Int.reduceEq, Int.reduceBEq, Int.reduceLE, Int.reduceLT, Nat.reduceAdd, Nat.reduceBEq, Nat.reduceEqDiff, reduceIte, Nat.reduceLeDiff, Nat.reduceMul, Nat.reduceSub, reduceCtorEq] at c2 c3
 simp only [keepL, and_true] at hcl
 obtain ⟨d2, d3⟩ := hcl
 simp only [go_sem, *, Nat.reduceLT, Int.reduceEq, Int.reduceBEq, Int.reduceLE, Int.reduceLT, Nat.reduceAdd, Nat.reduceBEq, Nat.reduceEqDiff, reduceIte, Nat.reduceLeDiff, Nat.reduceMul, Nat.reduceSub, reduceCtorEq] at d2 d3
 obtain ⟨h5, hal⟩ := hinv
 by_cases hlt : k < g.length
 ·have hd0 : decide ((k : Int) < ((g.length : Nat) : Int)) = true := by first | (simpa using hlt; done) | (simp only [decide_eq_true_eq]; omega)
  have hv_0 := wrap_succ hlt md
  obtain ⟨r, hr⟩ := get_some hlt
  obtain ⟨b, hb1, hb2⟩ := lis_idx HG.out hr
  have lb := sl_len hb1
  have ob := sl_out hb1
  have hcb := (slV_is hb1).1.cells
  have htb := (slV_is hb1).1.tup
  have hn : (g.take (k + 1)).all (fun r => (r.length : Int) == m.hours) = ((r.length : Int) == m.hours) := by rw [take_next hr, List.all_append, hal]; simp
  simp only [AV.cells] at hcb
  simp only [isTuple] at htb
  have HN := Lib.hid hn
  have HR := Lib.hid hr
  have HLT0 := Lib.hid hlt
  clear hb1 hn hr hal hlt
  cases hq : ((r.length : Int) == m.hours) with
  | true =>
   have hq' : ((r.length : Int) != m.hours) = false := by rw [bne, hq]; rfl
   have HN2 := Lib.hid (HN.out.trans hq)
   clear HN
   repeat' (first | (apply W.drawQ (id := 4) (l1 := [0, 1, 2, 3, 4, 5, 6, 7, 8]) (l2 := []); kernel_rfl; kernel_rfl; kernel_rfl; exact Z4) | refine go1 ?_ | refine go2 (fun hh => ?_) (fun hh => ?_) | fail)
   all_goals refine contH_mk (by first | assumption | exact HLT0.out) (by simp only [keepE, and_true, and_self, go_sem, *, Nat.reduceLT, Int.reduceEq, Int.reduceBEq, Int.reduceLE, Int.reduceLT, Nat.reduceAdd, Nat.reduceBEq, Nat.reduceEqDiff, reduceIte, Nat.reduceLeDiff, Nat.reduceMul, Nat.reduceSub, reduceCtorEq]) (by simp only [keepL, and_true, and_self, go_sem, *, Nat.reduceLT, Int.reduceEq, Int.reduceBEq, Int.reduceLE, Int.reduceLT, Nat.reduceAdd, Nat.reduceBEq, Nat.reduceEqDiff, reduceIte, Nat.reduceLeDiff, Nat.reduceMul, Nat.reduceSub, reduceCtorEq]) ?_
   all_goals refine ⟨?_, ?_⟩
   all_goals first | exact Z2 | skip
   all_goals exact HN2.out
  | false =>
   have hq' : ((r.length : Int) != m.hours) = true := by rw [bne, hq]; rfl
   have hno : (g.all fun r => (r.length : Int) == m.hours) = false := by
    rw [List.all_eq_false]
    exact ⟨r, List.mem_of_getElem? HR.out, by simp only [hq, Bool.false_eq_true, not_false_eq_true]⟩
   rw [hno]
   clear HN hno
   repeat' (first | (apply W.drawQ (id := 4) (l1 := [0, 1, 2, 3, 4, 5, 6, 7, 8]) (l2 := []); kernel_rfl; kernel_rfl; kernel_rfl; exact Z4) | refine go1 ?_ | refine go2 (fun hh => ?_) (fun hh => ?_) | fail)
   all_goals (simp only [resV_def (X := dX c) Tryz.func66, Tryz.results66]; first | exact J5 | refine J6 ?_)
   all_goals rfl
 ·have hd0 : decide ((k : Int) < ((g.length : Nat) : Int)) = false := by first | (simpa using hlt; done) | (simp only [decide_eq_false_iff_not]; omega)
  obtain rfl : k = g.length := by omega
  rw [List.take_length] at hal
  rw [hal]
  clear hal
  have tb : ∀ b : Bool, (true && b) = b := fun b => Bool.true_and b
  rw [tb]
  cases hq : ((g.length : Int) == m.rooms.length) with
  | true =>
   repeat' (first | refine goS ?_ | (apply U6; exact Z1; exact Z1; (focus (simp only [List.nil_append, List.append_nil]; first | exact k38 _)); simp only [pM, pN, rR, rP]) | refine go2 (fun hh => ?_) (fun hh => ?_) | fail)
   all_goals (simp only [resV_def (X := dX c) Tryz.func66, Tryz.results66]; first | exact J5 | refine J6 ?_)
   all_goals rfl
  | false =>
   repeat' (first | refine goS ?_ | (apply U6; exact Z1; exact Z1; (focus (simp only [List.nil_append, List.append_nil]; first | exact k38 _)); simp only [pM, pN, rR, rP]) | refine go2 (fun hh => ?_) (fun hh => ?_) | fail)
   all_goals (simp only [resV_def (X := dX c) Tryz.func66, Tryz.results66]; first | exact J5 | refine J6 ?_)
   all_goals rfl
end
end Go.AM
namespace Go.AM
open Go
variable [Keep]
theorem HExt.pair {h h' : Heap} (x : HExt h h') : h.next ≤ h'.next ∧ ∀ id, id < h.next → h'.get id = h.get id := x
def InR (h : Heap) (v e : AV) (sz : Nat) (l : List AV) : Prop := (e = .nilslice ∧ l = []) ∨ ∃ id, e = .row id 0 l.length ∧ h.get id = some (.rw sz l) ∧ id < h.next ∧ l ≠ [] ∧ ∀ off n, v ≠ .row id off n
def Blt2 (h : Heap) (v : AV) (sz : Nat) (ls : List (List AV)) : Prop := ∃ el, Blt h v 1 el ∧ el.length = ls.length ∧ ∀ i, i < el.length → InR h v (el.getD i .junk) sz (ls.getD i [])
section
variable {h h' : Heap} {v v' e : AV} {sz : Nat} {l : List AV} {ls : List (List AV)}
theorem InR.cells (q : InR h v e sz l) : e.cells = [e] := by rcases q with ⟨rfl, _⟩ | ⟨id, rfl, _⟩ <;> rfl
theorem InR.keep (q : InR h v e sz l) (x : HExt h h') : InR h' v e sz l := by
 rcases q with q | ⟨id, h1, h2, h3, h4, h5⟩
 ·exact .inl q
 ·exact .inr ⟨id, h1, (x.2 id h3).trans h2, Nat.lt_of_lt_of_le h3 x.1, h4, h5⟩
theorem Blt.ext (q : Blt h v sz l) (x : HExt h h') : Blt h' v sz l := by
 rcases q with q | ⟨id, h1, h2, h3, h4⟩
 ·exact .inl q
 ·exact .inr ⟨id, h1, (x.2 id h3).trans h2, Nat.lt_of_lt_of_le h3 x.1, h4⟩
theorem Blt2.nil : Blt2 h .nilslice sz [] := ⟨[], .nil, rfl, fun i hi => by simp at hi⟩
theorem Blt2.keep (q : Blt2 h v sz ls) (x : HExt h h') : Blt2 h' v sz ls := by
 obtain ⟨el, b, hl, hi⟩ := q
 exact ⟨el, b.ext x, hl, fun i hh => (hi i hh).keep x⟩
theorem Blt2.out (q : Blt2 h v sz ls) : outV (some v) = some v := by obtain ⟨el, b, _⟩ := q; exact b.out
theorem Blt2.len (q : Blt2 h v sz ls) : lenS v = some ls.length := by obtain ⟨el, b, hl, _⟩ := q; rw [b.len, hl]
theorem InR.of {b : Nat} {h0 : Heap} (q : BltN b h e sz l) (hv : ∀ id off n, v = .row id off n → id < b) : InR h v e sz l := by
 rcases q with q | ⟨id, h1, h2, h3, h4, h5⟩
 ·exact .inl q
 ·exact .inr ⟨id, h1, h2, h4, h5, fun off n ev => by have := hv id off n ev; omega⟩
theorem Blt2.below (q : Blt2 h v sz ls) : ∀ id off n, v = .row id off n → id < h.next := by
 obtain ⟨el, b, _⟩ := q
 intro id off n e
 rcases b with ⟨rfl, _⟩ | ⟨j, rfl, _, hj, _⟩
 ·cases e
 ·cases e; exact hj
theorem Blt2.app {el : List AV} {n : Nat} (q : ∀ i, i < el.length → InR h v (el.getD i .junk) sz (ls.getD i [])) (hl : el.length = ls.length) (k : Keeps h h' v) (b' : Blt h' v' 1 (el ++ [e])) (hv : v' = .row h.next 0 n) (i : InR h v e sz l) : Blt2 h' v' sz (ls ++ [l]) := by
 have key : ∀ {e : AV} {l : List AV}, InR h v e sz l → InR h' v' e sz l := by
  intro e l q
  rcases q with q | ⟨id, h1, h2, h3, h4, h5⟩
  ·exact .inl q
  ·refine .inr ⟨id, h1, (k.2 id h3 h5).trans h2, Nat.lt_of_lt_of_le h3 k.1, h4, fun off n ev => ?_⟩
   rw [hv] at ev
   cases ev
   exact absurd h3 (Nat.lt_irrefl _)
 refine ⟨el ++ [e], b', by simp [hl], fun j hj => ?_⟩
 rw [List.length_append] at hj
 by_cases hlt : j < el.length
 ·have e1 : (el ++ [e]).getD j .junk = el.getD j .junk := by simp [List.getD, List.getElem?_append_left hlt]
  have e2 : (ls ++ [l]).getD j [] = ls.getD j [] := by simp [List.getD, List.getElem?_append_left (hl ▸ hlt)]
  rw [e1, e2]
  exact key (q j hlt)
 ·simp at hj
  have hje : j = el.length := by omega
  subst hje
  have e1 : (el ++ [e]).getD el.length .junk = e := by simp [List.getD]
  have e2 : (ls ++ [l]).getD el.length [] = l := by rw [hl]; simp [List.getD]
  rw [e1, e2]
  exact key i
theorem InR.frz (q : InR h v e sz l) (hs : ∀ e ∈ l, e.cells.length = sz) (hf : ∀ e ∈ l, ∀ x ∈ e.cells, x.flat = true ∧ x.one = true) : Frz h e (slN l) := by
 rcases q with ⟨rfl, rfl⟩ | ⟨id, rfl, h1, h2, h3, h4⟩
 ·exact .flat rfl
 ·cases l with
  | nil => exact absurd rfl h3
  | cons a r => exact .flats h1 h3 hs hf
theorem Blt2.frz (q : Blt2 h v sz ls) (hs : ∀ l ∈ ls, ∀ e ∈ l, e.cells.length = sz) (hf : ∀ l ∈ ls, ∀ e ∈ l, ∀ x ∈ e.cells, x.flat = true ∧ x.one = true) : Frz h v (slN (ls.map slN)) := by
 obtain ⟨el, b, hl, hi⟩ := q
 refine b.frz2D hl (fun i hlt => ?_) (fun e he => ?_)
 ·have hm : ls.getD i [] ∈ ls := by rw [List.getD, List.getElem?_eq_getElem (hl ▸ hlt)]; exact List.getElem_mem _
  exact (hi i hlt).frz (hs _ hm) (hf _ hm)
 ·obtain ⟨i, hlt, rfl⟩ := List.getElem_of_mem he
  have := hi i hlt
  rw [List.getD, List.getElem?_eq_getElem hlt] at this
  exact this.cells
end
end Go.AM
