/-
  A part of the proof: contracts of functions.
-/
import Derived.Test.YtkpbdjpekjdhcaaGreatDoorXBF
import Derived.Test.YtkpbdjpekjdhcaaGreatDoorXBE
import Derived.Test.YtkpbdjpekjdhcaaGreatDoorXBG
set_option linter.unusedSectionVars false
set_option linter.unusedVariables false
set_option linter.unusedSimpArgs false
set_option maxRecDepth 100000
namespace Go.AM
open Go Go.Proofs
variable [Keep]
attribute [local irreducible] W WO WO1 WD WQ WT thenQ blockQ endR isRet retK Cl ClR
open Go.TX (Rm Fa Ha Hs)
attribute [local irreducible] hasB metF pathB houseB failsH highG lowG brV airS
def busyL (p : List Int) : Nat := p.countP fun r => decide (r >= 0)
theorem countP_next {α : Type} {q : α -> Bool} {l : List α} {k : Nat} {x : α} (h : l[k]? = some x) : (l.take (k + 1)).countP q = (l.take k).countP q + (if q x = true then 1 else 0) := by
 rw [take_next h, List.countP_append]
 simp [List.countP_cons]
def limAt (m : Hs) (i : Nat) : Int := match m.hands[i]? with | some x => x.limit | none => 0
def mostAt (m : Hs) (i : Nat) : Int := match m.hands[i]? with | some x => x.most | none => 0
def fairB (m : Hs) (g : List (List Int)) : Bool := (List.range g.length).all fun i => !decide ((busyL (g.getD i []) : Int) > mostAt m i)
def dan1 (m : Hs) (li : Int) (p : List Int) : Option Fl := (failsH m).find? fun f => decide (brV (highG m f) p > li)
def danL (m : Hs) (g : List (List Int)) : Nat -> Option (Nat × Fl)
 | 0 => none
 | k + 1 => match danL m g k with
  | some x => some x
  | none => match dan1 m (limAt m k) (g.getD k []) with
   | some f => some (k, f)
   | none => none
theorem dan_up {m : Hs} {g : List (List Int)} {x : Nat × Fl} {k : Nat} (h : danL m g k = some x) : ∀ n, danL m g (k + n) = some x
 | 0 => h
 | n + 1 => by
  show (match danL m g (k + n) with | some x => some x | none => _) = _
  rw [dan_up h n]
theorem dan_to {m : Hs} {g : List (List Int)} {x : Nat × Fl} {k n : Nat} (h : danL m g k = some x) (hk : k <= n) : danL m g n = some x := by
 obtain ⟨d, rfl⟩ : ∃ d, n = k + d := ⟨n - k, by omega⟩
 exact dan_up h d
def danE : Option (Nat × Fl) -> AV
 | none => .agg [.int .i64 0, .int .i64 0, .int .i64 0, .int .i64 0]
 | some (i, f) => .agg [.int .i64 i, .int .i64 f.tell.what, .int .i64 f.tell.num, .int .i64 f.tell.hour]
theorem find_no {α : Type} {q : α -> Bool} {l : List α} {k : Nat} {x : α} (h : l[k]? = some x) (hn : (l.take k).find? q = none) (hq : q x = false) : (l.take (k + 1)).find? q = none := by
 rw [take_next h, List.find?_append, hn]
 simp [hq]
theorem find_at {α : Type} {q : α -> Bool} {l : List α} {k : Nat} {x : α} (h : l[k]? = some x) (hn : (l.take k).find? q = none) (hq : q x = true) : l.find? q = some x := by
 have h1 := take_next h
 have h2 : (l.take (k + 1)).find? q = some x := by
  rw [h1, List.find?_append, hn]
  simp [hq]
 have h3 : l = l.take (k + 1) ++ l.drop (k + 1) := (List.take_append_drop _ _).symm
 rw [h3, List.find?_append, h2]
 rfl
def keptR (m : Hs) (g : List (List Int)) : Bool := (danL m g g.length).isNone && fairB m g
section
variable {c : Itr}
set_option maxHeartbeats 4000000 in
theorem C101 (h101 : c 101 = none) (pa : AV) (p : List Int) (hp : slV intC pa = some p) (h : Heap) : Cl (dX c) 101 [pa] h (.ret (.int .i64 (busyL p)) h none) := by
 refine ClR.cl ?_
 have lp := sl_len hp
 have op := sl_out hp
 have mp := sl_max hp
 have HP := J1 hp
 clear hp
 refine ClR.walk (c := _) h101 Tryz.func101 rfl (by kernel_rfl) rfl (fun e => by cases e) ?_
 try simp only [entryEnv, Nat.reduceAdd, List.nil_append, List.cons_append, emptyHp]
 repeat' (first | refine goS ?_ | (refine go2 ?_ ?_ <;> intro hh) | fail)
 refine W.loopH (p.length) [0] [] (fun k e lm => ∃ s, e.get 4 = some (.int .i64 ↑k) /\ e.get 3 = some (.int .i64 ((s : Nat) : Int)) /\ (p.take k).countP (fun r => decide (r >= 0)) = s) ?_ ?_
 ·skip
  refine ⟨0, ?_, ?_, ?_⟩
  all_goals first | exact Z2 | (simp [go_sem, *]; done) | skip
  all_goals rfl
 intro k e lm hk0 hce hcl hinv
 simp only [keepE, and_true] at hce
 have c0 := hce
 clear hce
 simp only [go_sem, *, Nat.reduceBEq, Nat.reduceEqDiff, reduceIte] at c0
 clear hcl
 obtain ⟨s, h4, h3, hs⟩ := hinv
 by_cases hlt : k < p.length
 ·have hd0 : decide ((k : Int) < ((p.length : Nat) : Int)) = true := by first | (simpa using hlt; done) | (simp only [decide_eq_true_eq]; omega)
  have hv_0 := wrap_succ hlt mp
  obtain ⟨r, hr⟩ := get_some hlt
  have hix := fun H => ints_idx HP.out hr H
  have hnx := countP_next (q := fun r : Int => decide (r >= 0)) hr
  rw [hs] at hnx
  have hsl : s <= k := by rw [<- hs]; exact Nat.le_trans List.countP_le_length (by rw [List.length_take]; omega)
  have hw := wrap_succ (k := s) (m := p.length) (by omega) mp
  have HNX := J1 hnx
  have HLT0 := J1 hlt
  clear hr hnx hs hsl hlt
  cases e : decide (r >= 0) with
  | true =>
   repeat' (first | refine goS ?_ | (refine go2 ?_ ?_ <;> intro hh) | fail)
   all_goals refine contH_mk J9 J7 J8 ?_
   all_goals refine ⟨s + 1, ?_, ?_, ?_⟩
   all_goals first | exact Z2 | skip
   all_goals (first | (rw [HNX.out]; simp only [e, if_true]; done) | exact Z2)
  | false =>
   repeat' (first | refine goS ?_ | (refine go2 ?_ ?_ <;> intro hh) | fail)
   all_goals refine contH_mk J9 J7 J8 ?_
   all_goals refine ⟨s, ?_, ?_, ?_⟩
   all_goals first | exact Z2 | skip
   all_goals (first | (rw [HNX.out]; simp only [e]; rfl) | exact Z2)
 ·have hd0 : decide ((k : Int) < ((p.length : Nat) : Int)) = false := by first | (simpa using hlt; done) | (simp only [decide_eq_false_iff_not]; omega)
  obtain rfl : k = p.length := by omega
  rw [List.take_length] at hs
  unfold busyL
  rw [hs]
  clear hs
  repeat' (first | refine goS ?_ | (refine go2 ?_ ?_ <;> intro hh) | fail)
  all_goals (simp only [resV_def (X := dX c) Tryz.func101, Tryz.results101]; first | exact J5 | refine J6 ?_)
  all_goals rfl
set_option maxHeartbeats 4000000 in
theorem C58 (h58 : c 58 = none) (h101 : c 101 = none) (m : Hs) (ra fa oa ha dv : AV) (g : List (List Int)) (hm : HsA m ra fa oa ha) (hg : lisV dv = some g) (hl : g.length = m.hands.length) (h : Heap) :
  Cl (dX c) 58 [.agg [.int .i64 m.hours, ra, fa, oa, ha], dv] h (.ret (.bool (fairB m g)) h none) := by
 refine ClR.cl ?_
 have o1 := sl_out hm.r
 have o2 := sl_out hm.f
 have o3 := sl_out hm.o
 have o4 := sl_out hm.h
 have ld := lis_len hg
 have od := lis_out hg
 have md := lis_max hg
 have HG := J1 hg
 have HM := J1 hm
 have HL := J1 hl
 unfold fairB
 clear hg hm hl
 refine ClR.walk (c := _) h58 Tryz.func58 rfl (by kernel_rfl) rfl (fun e => by cases e) ?_
 try simp only [entryEnv, Nat.reduceAdd, List.nil_append, List.cons_append, emptyHp]
 repeat' (first | refine goS ?_ | (refine go2 ?_ ?_ <;> intro hh) | fail)
 refine W.loopH (g.length) [1, 2] [2] (fun k e lm => e.get 5 = some (.int .i64 ↑k) /\ (List.range k).all (fun i => !decide ((busyL (g.getD i []) : Int) > mostAt m i)) = true) ?_ ?_
 ·skip
  refine ⟨?_, ?_⟩
  all_goals first | exact Z2 | (simp [go_sem, *]; done) | skip
  all_goals rfl
 intro k e lm hk0 hce hcl hinv
 simp only [keepE, and_true] at hce
 obtain ⟨c1, c2⟩ := hce
 simp only [go_sem, *, Nat.reduceBEq, Nat.reduceEqDiff, reduceIte] at c1 c2
 simp only [keepL, and_true] at hcl
 have d2 := hcl
 clear hcl
 simp only [go_sem, *, Nat.reduceBEq, Nat.reduceEqDiff, reduceIte] at d2
 obtain ⟨h5, hal⟩ := hinv
 by_cases hlt : k < g.length
 ·have hd0 : decide ((k : Int) < ((g.length : Nat) : Int)) = true := by first | (simpa using hlt; done) | (simp only [decide_eq_true_eq]; omega)
  have hv_0 := wrap_succ hlt md
  obtain ⟨p, hp⟩ := get_some hlt
  obtain ⟨b, hb1, hb2⟩ := lis_idx HG.out hp
  obtain ⟨x, hx⟩ := get_some (l := m.hands) (k := k) (by have := HL.out; omega)
  have hix := fun H => has_idx HM.out.h hx H
  have hgp : g.getD k [] = p := by simp [List.getD, hp]
  have hmx : mostAt m k = x.most := by unfold mostAt; rw [hx]
  have k101 := fun h => C101 (c := c) h101 b p hb1 h
  have ob := sl_out hb1
  have hcb := (slV_is hb1).1.cells
  have htb := (slV_is hb1).1.tup
  simp only [AV.cells] at hcb
  simp only [isTuple] at htb
  have hnx : (List.range (k + 1)).all (fun i => !decide ((busyL (g.getD i []) : Int) > mostAt m i)) = !decide ((busyL p : Int) > x.most) := by rw [List.range_succ, List.all_append, hal, List.all_cons, hgp, hmx]; simp
  have HNX := J1 hnx
  have HAT := J1 (show (!decide ((busyL (g.getD k []) : Int) > mostAt m k)) = !decide ((busyL p : Int) > x.most) by rw [hgp, hmx])
  have HLT0 := J1 hlt
  clear hp hb1 hx hgp hmx hnx hal hlt
  generalize hbu : (busyL p : Int) = bu at *
  cases e : decide (bu > x.most) with
  | true =>
   have hno : (List.range g.length).all (fun i => !decide ((busyL (g.getD i []) : Int) > mostAt m i)) = false := by
    rw [List.all_eq_false]
    exact ⟨k, List.mem_range.2 HLT0.out, by rw [HAT.out, e]; simp⟩
   rw [hno]
   clear hno hbu
   repeat' (first | (apply W.drawQ (id := 4) (l1 := [0, 1, 2, 3, 4, 5, 6, 7, 8, 9, 10, 11]) (l2 := []); kernel_rfl; kernel_rfl; kernel_rfl; exact Z4) | refine go1 ?_ | (apply U6; exact Z1; exact Z1; (exact k101 _); simp only [pM, pN, rR, rP]) | (refine go2 ?_ ?_ <;> intro hh) | fail)
   all_goals (simp only [resV_def (X := dX c) Tryz.func58, Tryz.results58]; first | exact J5 | refine J6 ?_)
   all_goals rfl
  | false =>
   have HBU := J1 hbu
   clear hbu
   repeat' (first | (apply W.drawQ (id := 4) (l1 := [0, 1, 2, 3, 4, 5, 6, 7, 8, 9, 10, 11]) (l2 := []); kernel_rfl; kernel_rfl; kernel_rfl; exact Z4) | refine go1 ?_ | (apply U6; exact Z1; exact Z1; (exact k101 _); simp only [pM, pN, rR, rP]) | (refine go2 ?_ ?_ <;> intro hh) | fail)
   all_goals refine contH_mk J9 J7 J8 ?_
   all_goals refine ⟨?_, ?_⟩
   all_goals first | exact Z2 | skip
   all_goals (rw [HNX.out, e]; rfl)
 ·have hd0 : decide ((k : Int) < ((g.length : Nat) : Int)) = false := by first | (simpa using hlt; done) | (simp only [decide_eq_false_iff_not]; omega)
  obtain rfl : k = g.length := by omega
  rw [hal]
  clear hal
  repeat' (first | refine goS ?_ | (refine go2 ?_ ?_ <;> intro hh) | fail)
  all_goals (simp only [resV_def (X := dX c) Tryz.func58, Tryz.results58]; first | exact J5 | refine J6 ?_)
  all_goals rfl
set_option maxHeartbeats 8000000 in
theorem C54 (hc : CxR c) (h54 : c 54 = none) (h62 : c 62 = none) (m : Hs) (ra fa oa ha dv : AV) (g : List (List Int)) (hm : HsA m ra fa oa ha) (hg : lisV dv = some g) (ho : HOk m) (h : Heap) :
  Cl (dX c) 54 [.agg [.int .i64 m.hours, ra, fa, oa, ha], dv] h (.ret (.bool (rosR m g)) h none) := by
 refine ClR.cl ?_
 obtain ⟨nn, hnn, hnt, hn1, hn4, hol⟩ := ho_parts ho
 have hr3 := ho.rooms
 have l1 := sl_len hm.r
 have l4 := sl_len hm.h
 have o1 := sl_out hm.r
 have o2 := sl_out hm.f
 have o3 := sl_out hm.o
 have o4 := sl_out hm.h
 have ld := lis_len hg
 have od := lis_out hg
 have md := lis_max hg
 have k62 := fun pa p (hp : slV intC pa = some p) h => C62 hc h62 m ra fa oa ha pa p hm hp h
 have hset := fun (x : Int) (hx : x ∈ m.op) => ho.set x hx
 have hset2 : ∀ x ∈ m.op, 0 <= x /\ x < 16 := fun x hx => by
  have h1 := ho.set x hx
  have : (2 : Int) ^ m.rooms.length <= 8 := by
   have : m.rooms.length = 1 \/ m.rooms.length = 2 \/ m.rooms.length = 3 := by omega
   rcases this with e | e | e <;> rw [e] <;> decide
  omega
 have k75 := fun (s : Int) (hs : s ∈ m.op) (r : Nat) (hr : r < m.rooms.length) h => C75 hc s r (hset2 s hs) (by omega) h
 unfold rosR
 rw [hol]
 have HO := J1 ho
 have HG := J1 hg
 have HM := J1 hm
 have HN := J1 hn4
 have HR := J1 hr3
 have HOL := J1 hol
 have HNN := J1 hnt
 have K75' := J1 k75
 rw [hnn] at k62 ⊢
 have K62' := J1 k62
 clear hm hg ho hnn hnt hn1 hn4 hol hr3 hset hset2 k75 k62 hc
 refine ClR.walk (c := _) h54 Tryz.func54 rfl (by kernel_rfl) rfl (fun e => by cases e) ?_
 try simp only [entryEnv, Nat.reduceAdd, List.nil_append, List.cons_append, emptyHp]
 repeat' (first | refine goS ?_ | (refine go2 ?_ ?_ <;> intro hh) | fail)
 refine W.loopH (g.length) [1, 2] [2] (fun k e lm => e.get 5 = some (.int .i64 ↑k) /\ (g.take k).all (pathB m) = true) ?_ ?_
 ·skip
  refine ⟨?_, ?_⟩
  all_goals first | exact Z2 | (simp [go_sem, *]; done) | skip
  all_goals rfl
 intro k e lm hk0 hce hcl hinv
 simp only [keepE, and_true] at hce
 obtain ⟨c1, c2⟩ := hce
 simp only [go_sem, *, Nat.reduceBEq, Nat.reduceEqDiff, reduceIte] at c1 c2
 simp only [keepL, and_true] at hcl
 have d2 := hcl
 clear hcl
 simp only [go_sem, *, Nat.reduceBEq, Nat.reduceEqDiff, reduceIte] at d2
 obtain ⟨h5, hal⟩ := hinv
 by_cases hlt : k < g.length
 ·have hd0 : decide ((k : Int) < ((g.length : Nat) : Int)) = true := by first | (simpa using hlt; done) | (simp only [decide_eq_true_eq]; omega)
  have hv_0 := wrap_succ hlt md
  obtain ⟨p, hp⟩ := get_some hlt
  obtain ⟨b, hb1, hb2⟩ := lis_idx HG.out hp
  have k62 := fun h => K62'.out b p hb1 h
  have ob := sl_out hb1
  have hcb := (slV_is hb1).1.cells
  have htb := (slV_is hb1).1.tup
  simp only [AV.cells] at hcb
  simp only [isTuple] at htb
  have hnx := all_at hp hal
  have HNX := J1 hnx
  have HP := J1 hp
  have HLT0 := J1 hlt
  clear hb1 hp hnx hal hlt
  cases e : pathB m p with
  | true =>
   rw [e] at k62
   repeat' (first | (apply W.drawQ (id := 4) (l1 := [0, 1, 2, 3, 4, 5, 6]) (l2 := []); kernel_rfl; kernel_rfl; kernel_rfl; exact Z4) | refine go1 ?_ | (apply U6; exact Z1; exact Z1; (exact k62 _); simp only [pM, pN, rR, rP]) | (refine go2 ?_ ?_ <;> intro hh) | fail)
   all_goals refine contH_mk J9 J7 J8 ?_
   all_goals refine ⟨?_, ?_⟩
   all_goals first | exact Z2 | skip
   all_goals exact HNX.out.trans e
  | false =>
   rw [e] at k62
   have hno : g.all (pathB m) = false := by
    rw [List.all_eq_false]
    exact ⟨p, List.mem_of_getElem? HP.out, by rw [e]; simp⟩
   rw [hno, Bool.false_and, Bool.false_and]
   clear hno
   repeat' (first | (apply W.drawQ (id := 4) (l1 := [0, 1, 2, 3, 4, 5, 6]) (l2 := []); kernel_rfl; kernel_rfl; kernel_rfl; exact Z4) | refine go1 ?_ | (apply U6; exact Z1; exact Z1; (exact k62 _); simp only [pM, pN, rR, rP]) | (refine go2 ?_ ?_ <;> intro hh) | fail)
   all_goals (simp only [resV_def (X := dX c) Tryz.func54, Tryz.results54]; first | exact J5 | refine J6 ?_)
   all_goals rfl
 ·have hd0 : decide ((k : Int) < ((g.length : Nat) : Int)) = false := by first | (simpa using hlt; done) | (simp only [decide_eq_false_iff_not]; omega)
  obtain rfl : k = g.length := by omega
  rw [List.take_length] at hal
  have hpb := hal
  rw [List.all_eq_true] at hpb
  rw [hal, Bool.true_and]
  have HPB := J1 hpb
  clear hal hpb
  cases hl : ((g.length : Int) != (m.hands.length : Int)) with
  | true =>
   rw [Bool.not_true, Bool.false_and]
   repeat' (first | refine goS ?_ | (refine go2 ?_ ?_ <;> intro hh) | fail)
   all_goals (simp only [resV_def (X := dX c) Tryz.func54, Tryz.results54]; first | exact J5 | refine J6 ?_)
   all_goals rfl
  | false =>
   rw [Bool.not_false, Bool.true_and]
   repeat' (first | refine goS ?_ | (refine go2 ?_ ?_ <;> intro hh) | fail)
   refine W.loopH (nn) [1, 2] [2] (fun j e1 lm1 => e1.get 6 = some (.int .i64 ↑j) /\ (List.range j).all (hourB m g) = true) ?_ ?_
   ·skip
    refine ⟨?_, ?_⟩
    all_goals first | exact Z2 | (simp [go_sem, *]; done) | skip
    all_goals rfl
   intro j e1 lm1 hk1 hce hcl hinv
   simp only [keepE, and_true] at hce
   obtain ⟨c1, c2⟩ := hce
   simp only [go_sem, *, Nat.reduceBEq, Nat.reduceEqDiff, reduceIte] at c1 c2
   simp only [keepL, and_true] at hcl
   have d2 := hcl
   clear hcl
   simp only [go_sem, *, Nat.reduceBEq, Nat.reduceEqDiff, reduceIte] at d2
   obtain ⟨h6, hal⟩ := hinv
   by_cases hjt : j < nn
   ·have hd1 : decide ((j : Int) < ((nn : Nat) : Int)) = true := by first | (simpa using hjt; done) | (simp only [decide_eq_true_eq]; omega)
    have hv_1 := wrap_succ hjt (by have := HN.out; unfold maxL; omega)
    obtain ⟨so, hso⟩ := get_some (l := m.op) (k := j) (by have := HOL.out; omega)
    have hixo := fun H => ints_idx HM.out.o hso H
    have hgs : m.op.getD j 0 = so := by simp [List.getD, hso]
    have hnx : (List.range (j + 1)).all (hourB m g) = hourB m g j := by rw [List.range_succ, List.all_append, hal]; simp
    have hho : hourB m g j = (List.range m.rooms.length).all fun r => cntOk (hasB so r) ((colL g j).count (r : Int)) := by unfold hourB; rw [hgs]
    have hno : hourB m g j = false -> (List.range nn).all (hourB m g) = false := fun e => by
     rw [List.all_eq_false]
     exact ⟨j, List.mem_range.2 hjt, by rw [e]; simp⟩
    have HNO := J1 hno
    have HHO := J1 hho
    have HNX := J1 hnx
    have HSO := J1 (List.mem_of_getElem? hso)
    have HLT0 := J1 hjt
    clear hso hgs hnx hal hho hno hjt
    repeat' (first | refine goS ?_ | (refine go2 ?_ ?_ <;> intro hh) | fail)
    refine W.loopH (m.rooms.length) [1, 2, 6] [2] (fun i e2 lm2 => e2.get 7 = some (.int .i64 ↑i) /\ (List.range i).all (fun r => cntOk (hasB so r) ((colL g j).count (r : Int))) = true) ?_ ?_
    ·skip
     refine ⟨?_, ?_⟩
     all_goals first | exact Z2 | (simp [go_sem, *]; done) | skip
     all_goals rfl
    intro i e2 lm2 hk2 hce hcl hinv
    simp only [keepE, and_true] at hce
    obtain ⟨c1, c2, c6⟩ := hce
    simp only [go_sem, *, Nat.reduceBEq, Nat.reduceEqDiff, reduceIte] at c1 c2 c6
    simp only [keepL, and_true] at hcl
    have d2 := hcl
    clear hcl
    simp only [go_sem, *, Nat.reduceBEq, Nat.reduceEqDiff, reduceIte] at d2
    obtain ⟨h7, ha2⟩ := hinv
    by_cases hit : i < m.rooms.length
    ·have hd2 : decide ((i : Int) < ((m.rooms.length : Nat) : Int)) = true := by first | (simpa using hit; done) | (simp only [decide_eq_true_eq]; omega)
     have hv_2 := wrap_succ hit (by have := HR.out; unfold maxL; omega)
     have k75 := fun h => K75'.out so HSO.out i hit h
     have hnx : (List.range (i + 1)).all (fun r => cntOk (hasB so r) ((colL g j).count (r : Int))) = cntOk (hasB so i) ((colL g j).count (i : Int)) := by rw [List.range_succ, List.all_append, ha2]; simp
     have hno : cntOk (hasB so i) ((colL g j).count (i : Int)) = false -> (List.range m.rooms.length).all (fun r => cntOk (hasB so r) ((colL g j).count (r : Int))) = false := fun e => by
      rw [List.all_eq_false]
      exact ⟨i, List.mem_range.2 hit, by rw [e]; simp⟩
     have HNO2 := J1 hno
     have HNX2 := J1 hnx
     have HLT1 := J1 hit
     clear ha2 hnx hno hit
     repeat' (first | refine goS ?_ | (refine go2 ?_ ?_ <;> intro hh) | fail)
     refine W.loopH (g.length) [1, 2, 6, 7] [2] (fun m e3 lm3 => ∃ s, e3.get 9 = some (.int .i64 ↑m) /\ e3.get 8 = some (.int .i64 ((s : Nat) : Int)) /\ (colL (g.take m) j).count (i : Int) = s) ?_ ?_
     ·skip
      refine ⟨0, ?_, ?_, ?_⟩
      all_goals first | exact Z2 | (simp [go_sem, *]; done) | skip
      all_goals rfl
     intro m e3 lm3 hk3 hce hcl hinv
     simp only [keepE, and_true] at hce
     obtain ⟨c1, c2, c6, c7⟩ := hce
     simp only [go_sem, *, Nat.reduceBEq, Nat.reduceEqDiff, reduceIte] at c1 c2 c6 c7
     simp only [keepL, and_true] at hcl
     have d2 := hcl
     clear hcl
     simp only [go_sem, *, Nat.reduceBEq, Nat.reduceEqDiff, reduceIte] at d2
     obtain ⟨s, h9, h8, hs⟩ := hinv
     by_cases hmt : m < g.length
     ·have hd3 : decide ((m : Int) < ((g.length : Nat) : Int)) = true := by first | (simpa using hmt; done) | (simp only [decide_eq_true_eq]; omega)
      have hv_3 := wrap_succ hmt md
      obtain ⟨p, hp⟩ := get_some hmt
      obtain ⟨b, hb1, hb2⟩ := lis_idx HG.out hp
      obtain ⟨q1, q2⟩ := path_is HO.out (HPB.out p (List.mem_of_getElem? hp))
      obtain ⟨r, hr⟩ := get_some (l := p) (k := j) (by have := HNN.out; have := HLT0.out; omega)
      have hix := fun H => ints_idx hb1 hr H
      have hgr : p.getD j 0 = r := by simp [List.getD, hr]
      have ob := sl_out hb1
      have hcb := (slV_is hb1).1.cells
      have htb := (slV_is hb1).1.tup
      simp only [AV.cells] at hcb
      simp only [isTuple] at htb
      have hnx : (colL (g.take (m + 1)) j).count (i : Int) = s + (if (r == (i : Int)) = true then 1 else 0) := by
       unfold colL at hs ⊢
       rw [take_next hp, List.map_append, List.count_append, hs, List.map_cons, List.map_nil, hgr, List.count_singleton]
      have hsl : s <= m := by
       rw [<- hs]
       refine Nat.le_trans List.count_le_length ?_
       unfold colL
       rw [List.length_map, List.length_take]
       omega
      have hw := wrap_succ (k := s) (m := g.length) (by omega) md
      have HNX3 := J1 hnx
      have HLT2 := J1 hmt
      clear hp hb1 q1 q2 hr hgr hnx hs hsl hmt
      cases e : (r == (i : Int)) with
      | true =>
       repeat' (first | refine goS ?_ | (refine go2 ?_ ?_ <;> intro hh) | fail)
       all_goals refine contH_mk (by first | assumption | exact HLT3.out | exact HLT0.out) J7 J8 ?_
       all_goals refine ⟨s + 1, ?_, ?_, ?_⟩
       all_goals first | exact Z2 | skip
       all_goals (first | (rw [HNX3.out]; simp only [e, if_true]; done) | exact Z2)
      | false =>
       repeat' (first | refine goS ?_ | (refine go2 ?_ ?_ <;> intro hh) | fail)
       all_goals refine contH_mk (by first | assumption | exact HLT3.out | exact HLT0.out) J7 J8 ?_
       all_goals refine ⟨s, ?_, ?_, ?_⟩
       all_goals first | exact Z2 | skip
       all_goals (first | (rw [HNX3.out]; simp only [e]; rfl) | exact Z2)
     ·have hd3 : decide ((m : Int) < ((g.length : Nat) : Int)) = false := by first | (simpa using hmt; done) | (simp only [decide_eq_false_iff_not]; omega)
      obtain rfl : m = g.length := by omega
      rw [List.take_length] at hs
      rw [hs] at HNO2 HNX2
      clear hs
      cases e1 : hasB so (i : Int) with
      | true =>
       rw [e1] at k75 HNO2 HNX2
       cases e2 : ((s : Int) != 1) with
       | true =>
        have e3 : cntOk true s = false := by unfold cntOk; rw [e2]; rfl
        have e4 := HNO2.out e3
        rw [<- HHO.out] at e4
        rw [HNO.out e4]
        clear e3 e4 HNO2 HNX2
        repeat' (first | (refine WO1.gund rfl rfl ?_ ?_; exact Z2; simp only [pM, pN, rR, rP]) | (apply W.drawQ (id := 4) (l1 := [0, 1, 2, 3, 4, 5, 6]) (l2 := []); kernel_rfl; kernel_rfl; kernel_rfl; exact Z4) | refine go1 ?_ | (apply U6; exact Z1; exact Z1; (exact k75 _); simp only [pM, pN, rR, rP]) | (refine go2 ?_ ?_ <;> intro hh) | fail)
        all_goals (simp only [resV_def (X := dX c) Tryz.func54, Tryz.results54]; first | exact J5 | refine J6 ?_)
        all_goals rfl
       | false =>
        have e3 : cntOk true s = true := by unfold cntOk; rw [e2]; rfl
        repeat' (first | (refine WO1.gund rfl rfl ?_ ?_; exact Z2; simp only [pM, pN, rR, rP]) | (apply W.drawQ (id := 4) (l1 := [0, 1, 2, 3, 4, 5, 6]) (l2 := []); kernel_rfl; kernel_rfl; kernel_rfl; exact Z4) | refine go1 ?_ | (apply U6; exact Z1; exact Z1; (exact k75 _); simp only [pM, pN, rR, rP]) | (refine go2 ?_ ?_ <;> intro hh) | fail)
        all_goals refine contH_mk (by first | assumption | exact HLT2.out | exact HLT0.out) J7 J8 ?_
        all_goals refine ⟨?_, ?_⟩
        all_goals first | exact Z2 | skip
        all_goals exact HNX2.out.trans e3
      | false =>
       rw [e1] at k75 HNO2 HNX2
       cases e2 : ((s : Int) != 0) with
       | true =>
        have e3 : cntOk false s = false := by unfold cntOk; rw [e2]; rfl
        have e4 := HNO2.out e3
        rw [<- HHO.out] at e4
        rw [HNO.out e4]
        clear e3 e4 HNO2 HNX2
        repeat' (first | (refine WO1.gund rfl rfl ?_ ?_; exact Z2; simp only [pM, pN, rR, rP]) | (apply W.drawQ (id := 4) (l1 := [0, 1, 2, 3, 4, 5, 6]) (l2 := []); kernel_rfl; kernel_rfl; kernel_rfl; exact Z4) | refine go1 ?_ | (apply U6; exact Z1; exact Z1; (exact k75 _); simp only [pM, pN, rR, rP]) | (refine go2 ?_ ?_ <;> intro hh) | fail)
        all_goals (simp only [resV_def (X := dX c) Tryz.func54, Tryz.results54]; first | exact J5 | refine J6 ?_)
        all_goals rfl
       | false =>
        have e3 : cntOk false s = true := by unfold cntOk; rw [e2]; rfl
        repeat' (first | (refine WO1.gund rfl rfl ?_ ?_; exact Z2; simp only [pM, pN, rR, rP]) | (apply W.drawQ (id := 4) (l1 := [0, 1, 2, 3, 4, 5, 6]) (l2 := []); kernel_rfl; kernel_rfl; kernel_rfl; exact Z4) | refine go1 ?_ | (apply U6; exact Z1; exact Z1; (exact k75 _); simp only [pM, pN, rR, rP]) | (refine go2 ?_ ?_ <;> intro hh) | fail)
        all_goals refine contH_mk (by first | assumption | exact HLT2.out | exact HLT0.out) J7 J8 ?_
        all_goals refine ⟨?_, ?_⟩
        all_goals first | exact Z2 | skip
        all_goals exact HNX2.out.trans e3
    ·have hd2 : decide ((i : Int) < ((m.rooms.length : Nat) : Int)) = false := by first | (simpa using hit; done) | (simp only [decide_eq_false_iff_not]; omega)
     obtain rfl : i = m.rooms.length := by omega
     repeat' (first | refine goS ?_ | (refine go2 ?_ ?_ <;> intro hh) | fail)
     all_goals refine contH_mk (by first | assumption | exact HLT1.out | exact HLT0.out) J7 J8 ?_
     all_goals refine ⟨?_, ?_⟩
     all_goals first | exact Z2 | skip
     all_goals exact HNX.out.trans (HHO.out.trans ha2)
   ·have hd1 : decide ((j : Int) < ((nn : Nat) : Int)) = false := by first | (simpa using hjt; done) | (simp only [decide_eq_false_iff_not]; omega)
    obtain rfl : j = nn := by omega
    rw [hal]
    clear hal
    repeat' (first | refine goS ?_ | (refine go2 ?_ ?_ <;> intro hh) | fail)
    all_goals (simp only [resV_def (X := dX c) Tryz.func54, Tryz.results54]; first | exact J5 | refine J6 ?_)
    all_goals rfl
end
end Go.AM
