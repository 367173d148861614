/-
  A part of the proof: contracts of functions.
-/
import Derived.Test.YtkpbdjpekjdhcaaGreatDoorRBE
set_option linter.unusedSectionVars false
set_option linter.unusedVariables false
set_option linter.unusedSimpArgs false
set_option maxRecDepth 100000
namespace Go.AM
open Go Go.Proofs
variable [Keep]
attribute [local irreducible] W WO WO1 WD WQ WT thenQ blockQ endR isRet retK Cl ClR
open Go.TX (Rm Fa Ha Hs)
def restR (n : Nat) (h : Heap) (r : COut) : Prop := ∃ h' v, HExt h h' ∧ r = .ret v h' none ∧ BltN h.next h' v 1 (intsE (List.replicate n (-1)))
theorem restR_fail {n : Nat} {h : Heap} : ¬ restR n h .fail := by rintro ⟨_, _, _, e, _⟩; cases e
def spC : Cd (Int × Int) where
 enc r := .agg [.int .i64 r.1, .int .i64 r.2]
 dec a := match a with | .agg [.int .i64 x, .int .i64 y] => some (x, y) | _ => none
 de _ := rfl
 ed a x h := by split at h <;> cases h; rfl
 pur _ := rfl
def spanE (l : List (Int × Int)) : List AV := l.map spC.enc
def spansE (g : List (List (Int × Int))) : List AV := g.map fun l => slN (spanE l)
theorem spans_idx {g : List (List (Int × Int))} {k : Nat} {l : List (Int × Int)} (h : g[k]? = some l) (H : Heap) : indexAddrV Tryz.prog H 30 (slN (spansE g)) (.int .i64 ↑k) = some (.vptr [slN (spanE l)]) := by
 have hc := (slN_is (spanE l)).cells
 have := (slN_is (spansE g)).idx (P := Tryz.prog) (hp := H) (x := slN (spanE l)) (m := 1) Tryz.underlying30 ty_lay104 (by unfold spansE; rw [List.getElem?_map, h]; rfl) (by rw [hc]; rfl)
 rw [hc] at this
 exact this
theorem span_idx {l : List (Int × Int)} {k : Nat} {p : Int × Int} (h : l[k]? = some p) (H : Heap) : indexAddrV Tryz.prog H 104 (slN (spanE l)) (.int .i64 ↑k) = some (.vptr [.int .i64 p.1, .int .i64 p.2]) :=
 (slN_is (spanE l)).idx (P := Tryz.prog) (hp := H) (x := spC.enc p) (m := 2) Tryz.underlying104 ty_lay56 (by unfold spanE; rw [List.getElem?_map, h]; rfl) rfl
section
variable {c : Itr}
set_option maxHeartbeats 2000000 in
theorem C86 (h86 : c 86 = none) (n : Nat) (hn : n ≤ 100) (h : Heap) : ClR (dX c) 86 [.int .i64 (n : Int)] h (restR n h) := by
 refine ClR.walk (c := _) h86 Tryz.func86 rfl (by kernel_rfl) rfl restR_fail ?_
 try simp only [entryEnv, Nat.reduceAdd, List.nil_append, List.cons_append, emptyHp]
 repeat' (first | refine goS ?_ | refine go2 (fun hh => ?_) (fun hh => ?_) | fail)
 refine W.loopV (n) [0] [] (fun k e lm hp => ∃ u, e.get 4 = some (.int .i64 ↑k) ∧ e.get 3 = some (u) ∧ BltN h.next hp u 1 (intsE (List.replicate k (-1))) ∧ HExt h hp) ?_ ?_
 ·skip
  refine ⟨.nilslice, ?_, ?_, BltN.nil, HExt.refl _⟩
  all_goals first | exact Z2 | (simp [go_sem, *]; done) | skip
 intro k e lm hp hk0 hce hcl hinv
 simp only [keepE, and_true] at hce
 have c0 := hce
 clear hce
 simp only [go_sem, *, Nat.reduceLT, Int.reduceEq, Int.reduceBEq, Int.reduceLE, Int.reduceLT, Nat.reduceAdd, Nat.reduceBEq, Nat.reduceEqDiff, reduceIte, Nat.reduceLeDiff, Nat.reduceMul, Nat.reduceSub, reduceCtorEq] at c0
 clear hcl
 obtain ⟨u, h4, h3, hB, hX⟩ := hinv
 by_cases hlt : k < n
 ·have hd0 : decide ((k : Int) < ((n : Nat) : Int)) = true := by first | (simpa using hlt; done) | (simp only [decide_eq_true_eq]; omega)
  have hv_0 := wrap_succ hlt (by unfold maxL; omega)
  have hbo1 := hB.blt.out
  have hll : (intsE (List.replicate k (-1))).length + 1 ≤ most := by
   rw [intsE_len, List.length_replicate]; unfold most; omega
  have HLT0 := Lib.hid hlt
  clear hlt
  repeat' (first | (apply WO1.appendN (t := 24) (u := 24) (e := 3) (e' := 3) (sz := 1) (tl := []) (hb := hB) (hx := HExt.pair hX); exact Z1; exact rfl; exact Z2; exact Z2; exact Z2; (focus (exact ty_row24)); exact Z1; (focus (intro v hv; simp at hv; subst hv; first | rfl | exact hsc)); (focus (simp only [List.length_map, List.length_cons, List.length_nil]; exact hll)); (focus (simp)); (intro v' h' hB' ho' hX'; have hcc' := hB'.blt.cells; have htt' := hB'.blt.tup; simp only [AV.cells] at hcc'; simp only [isTuple] at htt'; simp only [pM, pN])) | refine go1 ?_ | refine go2 (fun hh => ?_) (fun hh => ?_) | fail)
  all_goals refine contV_mk (by first | assumption | exact HLT0.out) (by simp only [keepE, and_true, and_self, go_sem, *, Nat.reduceLT, Int.reduceEq, Int.reduceBEq, Int.reduceLE, Int.reduceLT, Nat.reduceAdd, Nat.reduceBEq, Nat.reduceEqDiff, reduceIte, Nat.reduceLeDiff, Nat.reduceMul, Nat.reduceSub, reduceCtorEq]) (by simp only [keepL, and_true, and_self, go_sem, *, Nat.reduceLT, Int.reduceEq, Int.reduceBEq, Int.reduceLE, Int.reduceLT, Nat.reduceAdd, Nat.reduceBEq, Nat.reduceEqDiff, reduceIte, Nat.reduceLeDiff, Nat.reduceMul, Nat.reduceSub, reduceCtorEq]) ?_
  all_goals refine ⟨v', ?_, ?_, ?_, hX'⟩
  all_goals first | exact Z2 | skip
  ·rw [List.replicate_succ', intsE_app]; exact hB'
 ·have hd0 : decide ((k : Int) < ((n : Nat) : Int)) = false := by first | (simpa using hlt; done) | (simp only [decide_eq_false_iff_not]; omega)
  obtain rfl : k = n := by omega
  have hbo1 := hB.blt.out
  have HB := Lib.hid hB
  have HX := Lib.hid hX
  clear hB hX
  repeat' (first | refine goS ?_ | refine go2 (fun hh => ?_) (fun hh => ?_) | fail)
  all_goals (simp only [resV_def (X := dX c) Tryz.func86, Tryz.results86]; first | exact J5 | refine J6 ?_)
  exact ⟨_, _, HX.out, rfl, HB.out⟩
set_option maxHeartbeats 4000000 in
theorem C25 (h25 : c 25 = none) (g : List (List (Int × Int))) (hg : g.length ≤ 100) (hr : ∀ l ∈ g, l.length ≤ 100) (h : Heap) : Cl (dX c) 25 [slN (spansE g), slN (spansE g)] h (.ret (.bool true) h none) := by
 refine ClR.cl ?_
 have la := (slN_is (spansE g)).len
 have oa := (slN_is (spansE g)).out
 have hix := fun k l e H => spans_idx (g := g) (k := k) (l := l) e H
 have hl : (spansE g).length = g.length := by simp [spansE]
 rw [hl] at la
 have HIX := Lib.hid hix
 have HR := Lib.hid hr
 have HG := Lib.hid hg
 have hne : ((g.length : Int) != (g.length : Int)) = false := by simp
 have hsn := sn_ne
 clear hix hr hg hl
 generalize slN (spansE g) = av at *
 refine ClR.walk (c := _) h25 Tryz.func25 rfl (by kernel_rfl) rfl (fun e => by cases e) ?_
 try simp only [entryEnv, Nat.reduceAdd, List.nil_append, List.cons_append, emptyHp]
 repeat' (first | refine goS ?_ | refine go2 (fun hh => ?_) (fun hh => ?_) | fail)
 refine W.loopH (g.length) [0, 1] [] (fun k e lm => e.get 5 = some (.int .i64 ↑k)) ?_ ?_
 ·skip
  refine ?_
  all_goals first | exact Z2 | (simp [go_sem, *]; done) | skip
 intro k e lm hk0 hce hcl hinv
 simp only [keepE, and_true] at hce
 obtain ⟨c0, c1⟩ := hce
 simp only [go_sem, *, Nat.reduceLT, Int.reduceEq, Int.reduceBEq, Int.reduceLE, Int.reduceLT, Nat.reduceAdd, Nat.reduceBEq, Nat.reduceEqDiff, reduceIte, Nat.reduceLeDiff, Nat.reduceMul, Nat.reduceSub, reduceCtorEq] at c0 c1
 clear hcl
 have h5 := hinv
 clear hinv
 by_cases hlt : k < g.length
 ·have hd0 : decide ((k : Int) < ((g.length : Nat) : Int)) = true := by first | (simpa using hlt; done) | (simp only [decide_eq_true_eq]; omega)
  have hv_0 := wrap_succ hlt (by have := HG.out; unfold maxL; omega)
  obtain ⟨l, hl⟩ := get_some hlt
  have hix := HIX.out k l hl
  have lb := (slN_is (spanE l)).len
  have ob := (slN_is (spanE l)).out
  have hcb := (slN_is (spanE l)).cells
  have htb := (slN_is (spanE l)).tup
  have hll : (spanE l).length = l.length := by simp [spanE]
  have hix2 := fun j p e H => span_idx (l := l) (k := j) (p := p) e H
  rw [hll] at lb
  have hne2 : ((l.length : Int) != (l.length : Int)) = false := by simp
  have HLL := Lib.hid (HR.out l (List.mem_of_getElem? hl))
  have HIX2 := Lib.hid hix2
  have HLT0 := Lib.hid hlt
  simp only [AV.cells] at hcb
  simp only [isTuple] at htb
  clear hl hlt hix2 hll
  generalize slN (spanE l) = bv at *
  repeat' (first | (apply W.drawQ (id := 6) (l1 := [0, 1, 2, 3, 4, 5, 6, 7, 8, 9, 10]) (l2 := []); kernel_rfl; kernel_rfl; kernel_rfl; exact Z4) | (apply W.drawQ (id := 11) (l1 := [0, 1, 2, 3, 4, 5, 6, 7, 8, 9, 10, 11, 12, 13, 14]) (l2 := []); kernel_rfl; kernel_rfl; kernel_rfl; exact Z4) | refine go1 ?_ | refine go2 (fun hh => ?_) (fun hh => ?_) | fail)
  refine W.loopH (l.length) [0, 1, 5] [] (fun j e1 lm1 => e1.get 6 = some (.int .i64 ↑j)) ?_ ?_
  ·skip
   refine ?_
   all_goals first | exact Z2 | (simp [go_sem, *]; done) | skip
  intro j e1 lm1 hk1 hce hcl hinv
  simp only [keepE, and_true] at hce
  obtain ⟨c0, c1, c5⟩ := hce
  simp only [go_sem, *, Nat.reduceLT, Int.reduceEq, Int.reduceBEq, Int.reduceLE, Int.reduceLT, Nat.reduceAdd, Nat.reduceBEq, Nat.reduceEqDiff, reduceIte, Nat.reduceLeDiff, Nat.reduceMul, Nat.reduceSub, reduceCtorEq] at c0 c1 c5
  clear hcl
  have h6 := hinv
  clear hinv
  by_cases hjt : j < l.length
  ·have hd1 : decide ((j : Int) < ((l.length : Nat) : Int)) = true := by first | (simpa using hjt; done) | (simp only [decide_eq_true_eq]; omega)
   have hv_1 := wrap_succ hjt (by have := HLL.out; unfold maxL; omega)
   obtain ⟨p, hp⟩ := get_some hjt
   have hix2 := HIX2.out j p hp
   obtain ⟨p1, p2⟩ := p
   have he : (!(p1 == p1 && p2 == p2)) = false := by simp
   have HLT1 := Lib.hid hjt
   simp only at hix2
   clear hp hjt
   repeat' (first | (apply W.drawQ (id := 6) (l1 := [0, 1, 2, 3, 4, 5, 6, 7, 8, 9, 10]) (l2 := []); kernel_rfl; kernel_rfl; kernel_rfl; exact Z4) | (apply W.drawQ (id := 11) (l1 := [0, 1, 2, 3, 4, 5, 6, 7, 8, 9, 10, 11, 12, 13, 14]) (l2 := []); kernel_rfl; kernel_rfl; kernel_rfl; exact Z4) | refine go1 ?_ | refine go2 (fun hh => ?_) (fun hh => ?_) | fail)
   all_goals refine contH_mk (by first | assumption | exact HLT1.out) (by simp only [keepE, and_true, and_self, go_sem, *, Nat.reduceLT, Int.reduceEq, Int.reduceBEq, Int.reduceLE, Int.reduceLT, Nat.reduceAdd, Nat.reduceBEq, Nat.reduceEqDiff, reduceIte, Nat.reduceLeDiff, Nat.reduceMul, Nat.reduceSub, reduceCtorEq]) (by simp only [keepL, and_true, and_self, go_sem, *, Nat.reduceLT, Int.reduceEq, Int.reduceBEq, Int.reduceLE, Int.reduceLT, Nat.reduceAdd, Nat.reduceBEq, Nat.reduceEqDiff, reduceIte, Nat.reduceLeDiff, Nat.reduceMul, Nat.reduceSub, reduceCtorEq]) ?_
   all_goals first | exact Z2 | skip
  ·have hd1 : decide ((j : Int) < ((l.length : Nat) : Int)) = false := by first | (simpa using hjt; done) | (simp only [decide_eq_false_iff_not]; omega)
   obtain rfl : j = l.length := by omega
   repeat' (first | refine goS ?_ | refine go2 (fun hh => ?_) (fun hh => ?_) | fail)
   all_goals refine contH_mk (by first | assumption | exact HLT1.out) (by simp only [keepE, and_true, and_self, go_sem, *, Nat.reduceLT, Int.reduceEq, Int.reduceBEq, Int.reduceLE, Int.reduceLT, Nat.reduceAdd, Nat.reduceBEq, Nat.reduceEqDiff, reduceIte, Nat.reduceLeDiff, Nat.reduceMul, Nat.reduceSub, reduceCtorEq]) (by simp only [keepL, and_true, and_self, go_sem, *, Nat.reduceLT, Int.reduceEq, Int.reduceBEq, Int.reduceLE, Int.reduceLT, Nat.reduceAdd, Nat.reduceBEq, Nat.reduceEqDiff, reduceIte, Nat.reduceLeDiff, Nat.reduceMul, Nat.reduceSub, reduceCtorEq]) ?_
   all_goals first | exact Z2 | skip
 ·have hd0 : decide ((k : Int) < ((g.length : Nat) : Int)) = false := by first | (simpa using hlt; done) | (simp only [decide_eq_false_iff_not]; omega)
  obtain rfl : k = g.length := by omega
  repeat' (first | refine goS ?_ | refine go2 (fun hh => ?_) (fun hh => ?_) | fail)
  all_goals (simp only [resV_def (X := dX c) Tryz.func25, Tryz.results25]; first | exact J5 | refine J6 ?_)
  all_goals rfl
end
end Go.AM
