/-
  Contracts of functions of this program.
-/
import Derived.Test.YtlhcjccaimmhgaaGreatDoorFnB
import Derived.Test.YtlhcjccaimmhgaaGreatDoorSteps
import Derived.Test.YtlhcjccaimmhgaaGreatDoorFnA
set_option linter.unusedSectionVars false
set_option linter.unusedVariables false
set_option linter.unusedSimpArgs false
set_option maxRecDepth 100000
namespace Go.AM
open Go Go.Proofs
variable [Keep]
attribute [local irreducible] W WO WO1 WD WQ WT thenQ blockQ endR isRet retK Cl ClR
structure Rdg where
  b : Int
  x : Int
  y : Int
  err : Int
def rdgC : Cd Rdg where
  enc p := .agg [.int .i64 p.b, .int .i64 p.x, .int .i64 p.y, .int .i64 p.err]
  dec a := match a with | .agg [.int .i64 b, .int .i64 x, .int .i64 y, .int .i64 z] => some ⟨b, x, y, z⟩ | _ => none
  de _ := rfl
  ed a x h := by split at h <;> cases h; rfl
  pur _ := rfl
theorem rdg_idx {a : AV} {l : List Rdg} (h : slV rdgC a = some l) {k : Nat} {p : Rdg} (hp : l[k]? = some p) (H : Heap) : indexAddrV Tryz.prog H 49 a (.int .i64 ↑k) = some (.vptr [.int .i64 p.b, .int .i64 p.x, .int .i64 p.y, .int .i64 p.err]) :=
  (slV_is h).1.idx (x := rdgC.enc p) Tryz.underlying49 ty_lay95 (by simp [hp]) rfl
def isAx (h : Heap) (cx wx : Sp) (l : List Lim) (r : COut) : Prop := ∃ h' u, r = .ret (.agg [.int .i64 cx.lo, .int .i64 cx.hi, .int .i64 wx.lo, .int .i64 wx.hi, u]) h' none ∧ BltN h.next h' u 3 (l.map limC.enc) ∧ HExt h h'
theorem isAx_fail {h : Heap} {cx wx : Sp} {l : List Lim} : ¬ isAx h cx wx l .fail := by rintro ⟨_, _, e, _⟩; cases e
theorem isAx_ret {h h' : Heap} {u : AV} {cx wx : Sp} {l : List Lim} (b : BltN h.next h' u 3 (l.map limC.enc)) (x : h.next ≤ h'.next ∧ ∀ id, id < h.next → h'.get id = h.get id) :
    isAx h cx wx l (.ret (.agg [.int .i64 cx.lo, .int .i64 cx.hi, .int .i64 wx.lo, .int .i64 wx.hi, u]) h' none) := ⟨h', u, rfl, b, x⟩
attribute [local irreducible] isAx
def lims155 (rs : List Rdg) : List Lim := rs.map fun r => ⟨r.b, w64 (r.x - r.err), w64 (r.x + r.err)⟩
set_option maxHeartbeats 800000 in
theorem C155 (c : FuncId → Option (List AV → Heap → Option (AV × Heap))) (hc : c 155 = none) (hc2 : c 190 = some (pureFn sp190)) (sa mv ra : AV) (cx cy wx wy : Sp) (rs : List Rdg) (h : Heap) (hr : slV rdgC ra = some rs) (hsa : sa.one = true) (hmv : mv.one = true) :
    ClR (dX c) 155 [.agg [sa, .int .i64 cx.lo, .int .i64 cx.hi, .int .i64 cy.lo, .int .i64 cy.hi, .int .i64 wx.lo, .int .i64 wx.hi, .int .i64 wy.lo, .int .i64 wy.hi, ra, mv]] h (isAx h cx wx (lims155 rs)) := by
  have hlen := sl_len hr
  have hout := sl_out hr
  have hmax := sl_max hr
  refine ClR.walk (c := _) hc Tryz.func155 rfl (by kernel_rfl) rfl isAx_fail ?_
  simp only [entryEnv, Nat.reduceAdd]
  repeat' (first | (apply W.drawQ (id := 5) (l1 := [0, 1, 2, 3, 4, 5, 6, 7, 8, 9, 10]) (l2 := [11, 12, 13]); kernel_rfl; kernel_rfl; kernel_rfl; exact Z4) | (refine ⟨⟨trivial, trivial⟩, ?_⟩) | (refine ⟨⟨rfl, rfl⟩, ?_⟩) | (refine Z5 rfl rfl ?_) | (refine Z8 rfl rfl ?_) | (refine Z6 ?_) | (refine Z9 ?_; simp only [tN, bN, eN, true_and]) | (apply Z7; exact rfl; exact rfl; exact Z1; simp only [pM, pN]) | refine Y1 ?_ | refine U7 ?_ | refine U8 ?_ | refine U9 ?_ | refine Y2 ?_ | ((first | refine Y3 ?_ | refine Y8 ?_); simp only [tN, bN, eN, true_and]) | (apply U4; exact Z1; exact rfl; simp only [pM, pN, rR, rP]) | (refine J3 rfl rfl ?_ ?_; exact Z2) | (refine J4 rfl rfl ?_ ?_; exact Z2; simp only [pM, pN, rR, rP]) | (apply U3; exact rfl; exact rfl; exact Z1; refine ⟨fun hh => ?_, fun hh => ?_⟩ <;> try simp only [Bool.not_true, Bool.not_false, pM, pN] at hh ⊢) | (apply U5; exact rfl; exact Z3; simp only [pM, pN, rR, rP]) | (simp only [tP, bP, eP, true_and]) | (refine Y7 ?_; simp only [tR, bR, eR, true_and]) | (refine Y9 ?_; simp only [tX, bS, bO, Nat.reduceBEq, tN, bN]) | (refine Y4 ?_ ?_; exact Z2) | (refine Y5 ?_ ?_; exact Z2) | (apply Y6; exact Z1; refine ⟨fun hh => ?_, fun hh => ?_⟩))
  refine W.loopN rs.length (fun k F => ∃ e lm hp u g, F = Fr.mk 155 false e lm hp [] none ∧ BltN h.next hp u 3 ((lims155 (rs.take k)).map limC.enc) ∧ (h.next ≤ hp.next ∧ ∀ id, id < h.next → hp.get id = h.get id) ∧
    lm.get 3 = some (g, [.int .i64 cx.lo, .int .i64 cx.hi, .int .i64 wx.lo, .int .i64 wx.hi, u]) ∧ lm.get 2 = some (0, [.int .i64 0, .int .i64 0, .int .i64 0, .int .i64 0, .nilslice]) ∧ e.get 2 = some (.lptr 2 0 0) ∧ e.get 3 = some (.lptr 3 g 0) ∧ e.get 15 = some ra ∧ e.get 16 = some (.int .i64 ↑rs.length) ∧ e.get 17 = some (.int .i64 ↑k) ∧ k ≤ rs.length) ?_ ?_
  · refine ⟨_, _, _, _, 0, rfl, BltN.nil, ⟨Nat.le_refl _, fun _ _ => rfl⟩, ?_, ?_, ?_, ?_, ?_, ?_, ?_, ?_⟩ <;> first | exact Z2 | simp [go_sem, *]
  rintro k F ⟨e, lm, hp, u, g, rfl, hB, hX, hl3, hl2, h2, h3, h15, h16, h17, hk⟩
  have hbo := hB.blt.out
  have hbc := hB.blt.cells
  have hbt := hB.blt.tup
  by_cases hlt : k < rs.length
  · obtain ⟨p, hp'⟩ := get_some hlt
    have hix := rdg_idx hr hp'
    have hd : decide ((k : Int) < (rs.length : Int)) = true := by simpa using hlt
    have hw := wrap_succ hlt hmax
    have hnx : lims155 (rs.take (k + 1)) = lims155 (rs.take k) ++ [⟨p.b, w64 (p.x - p.err), w64 (p.x + p.err)⟩] := by rw [take_next hp']; simp [lims155]
    have hll : ((lims155 (rs.take k)).map limC.enc).length + 1 ≤ most := by
      simp only [lims155, List.length_map, List.length_take]; unfold most; unfold maxL at hmax; omega
    clear hr hp'
    repeat' (first | (apply W.drawQ (id := 5) (l1 := [0, 1, 2, 3, 4, 5, 6, 7, 8, 9, 10]) (l2 := [11, 12, 13]); kernel_rfl; kernel_rfl; kernel_rfl; exact Z4) | (apply WO1.appendN (t := 226) (u := 226) (e := 230) (e' := 230) (sz := 3) (tl := []) (b := h.next) (h0 := h) (hb := hB) (hx := hX); exact Z1; exact rfl; (focus exact Z2); (focus exact Z2); (focus exact Z2); (focus (exact ty_row226)); exact Z1; (focus (intro v hv; simp at hv; rcases hv with rfl | rfl <;> rfl)); (focus (simp only [List.length_cons, List.length_nil]; exact hll)); (focus (simp)); (intro v' h' hB' ho' hX'; have hcc' := hB'.blt.cells; have htt' := hB'.blt.tup; simp only [AV.cells] at hcc'; simp only [isTuple] at htt'; simp only [pM, pN])) | (refine ⟨⟨trivial, trivial⟩, ?_⟩) | (refine ⟨⟨rfl, rfl⟩, ?_⟩) | (refine Z5 rfl rfl ?_) | (refine Z8 rfl rfl ?_) | (refine Z6 ?_) | (refine Z9 ?_; simp only [tN, bN, eN, true_and]) | (apply Z7; exact rfl; exact rfl; exact Z1; simp only [pM, pN]) | refine Y1 ?_ | refine U7 ?_ | refine U8 ?_ | refine U9 ?_ | refine Y2 ?_ | ((first | refine Y3 ?_ | refine Y8 ?_); simp only [tN, bN, eN, true_and]) | (apply U4; exact Z1; exact rfl; simp only [pM, pN, rR, rP]) | (refine J3 rfl rfl ?_ ?_; exact Z2) | (refine J4 rfl rfl ?_ ?_; exact Z2; simp only [pM, pN, rR, rP]) | (apply U3; exact rfl; exact rfl; exact Z1; refine ⟨fun hh => ?_, fun hh => ?_⟩ <;> try simp only [Bool.not_true, Bool.not_false, pM, pN] at hh ⊢) | (apply U6; exact Z1; exact Z1; (focus (simp only [List.nil_append, List.append_nil]; first | exact K190 hc2 _ _ _)); simp only [pM, pN, rR, rP]) | (apply U5; exact rfl; exact Z3; simp only [pM, pN, rR, rP]) | (simp only [tP, bP, eP, true_and]) | (refine Y7 ?_; simp only [tR, bR, eR, true_and]) | (refine Y9 ?_; simp only [tX, bS, bO, Nat.reduceBEq, tN, bN]) | (refine Y4 ?_ ?_; exact Z2) | (refine Y5 ?_ ?_; exact Z2) | (apply Y6; exact Z1; refine ⟨fun hh => ?_, fun hh => ?_⟩))
    refine ⟨hlt, _, _, _, v', g, rfl, ?_, hX', ?_, ?_, ?_, ?_, ?_, ?_, ?_, by omega⟩
    · rw [hnx]; simpa [limC] using hB'
    all_goals exact Z2
  · have hd : decide ((k : Int) < (rs.length : Int)) = false := by simpa using hlt
    have hkl : k = rs.length := by omega
    rw [hkl, List.take_length] at hB
    clear hkl hr
    repeat' (first | (apply W.drawQ (id := 5) (l1 := [0, 1, 2, 3, 4, 5, 6, 7, 8, 9, 10]) (l2 := [11, 12, 13]); kernel_rfl; kernel_rfl; kernel_rfl; exact Z4) | (refine ⟨⟨trivial, trivial⟩, ?_⟩) | (refine ⟨⟨rfl, rfl⟩, ?_⟩) | (refine Z5 rfl rfl ?_) | (refine Z8 rfl rfl ?_) | (refine Z6 ?_) | (refine Z9 ?_; simp only [tN, bN, eN, true_and]) | (apply Z7; exact rfl; exact rfl; exact Z1; simp only [pM, pN]) | refine Y1 ?_ | refine U7 ?_ | refine U8 ?_ | refine U9 ?_ | refine Y2 ?_ | ((first | refine Y3 ?_ | refine Y8 ?_); simp only [tN, bN, eN, true_and]) | (apply U4; exact Z1; exact rfl; simp only [pM, pN, rR, rP]) | (refine J3 rfl rfl ?_ ?_; exact Z2) | (refine J4 rfl rfl ?_ ?_; exact Z2; simp only [pM, pN, rR, rP]) | (apply U3; exact rfl; exact rfl; exact Z1; refine ⟨fun hh => ?_, fun hh => ?_⟩ <;> try simp only [Bool.not_true, Bool.not_false, pM, pN] at hh ⊢) | (apply U5; exact rfl; exact Z3; simp only [pM, pN, rR, rP]) | (simp only [tP, bP, eP, true_and]) | (refine Y7 ?_; simp only [tR, bR, eR, true_and]) | (refine Y9 ?_; simp only [tX, bS, bO, Nat.reduceBEq, tN, bN]) | (refine Y4 ?_ ?_; exact Z2) | (refine Y5 ?_ ?_; exact Z2) | (apply Y6; exact Z1; refine ⟨fun hh => ?_, fun hh => ?_⟩))
    all_goals simp only [resV_def (X := dX c) Tryz.func155, Tryz.results155, resultsV, resultV, go_sem, *, Nat.reduceLT, Int.reduceEq, Int.reduceBEq, Int.reduceLE, Int.reduceLT, Nat.reduceAdd, Nat.reduceBEq, Nat.reduceEqDiff, reduceIte, Nat.reduceLeDiff, Nat.reduceMul, Nat.reduceSub, reduceCtorEq, frzRes, dFrz, frzCells, isRet_ret, tupleOf]
    exact isAx_ret hB hX
def lims156 (rs : List Rdg) : List Lim := rs.map fun r => ⟨r.b, w64 (r.y - r.err), w64 (r.y + r.err)⟩
set_option maxHeartbeats 800000 in
theorem C156 (c : FuncId → Option (List AV → Heap → Option (AV × Heap))) (hc : c 156 = none) (hc2 : c 190 = some (pureFn sp190)) (sa mv ra : AV) (cx cy wx wy : Sp) (rs : List Rdg) (h : Heap) (hr : slV rdgC ra = some rs) (hsa : sa.one = true) (hmv : mv.one = true) :
    ClR (dX c) 156 [.agg [sa, .int .i64 cx.lo, .int .i64 cx.hi, .int .i64 cy.lo, .int .i64 cy.hi, .int .i64 wx.lo, .int .i64 wx.hi, .int .i64 wy.lo, .int .i64 wy.hi, ra, mv]] h (isAx h cy wy (lims156 rs)) := by
  have hlen := sl_len hr
  have hout := sl_out hr
  have hmax := sl_max hr
  refine ClR.walk (c := _) hc Tryz.func156 rfl (by kernel_rfl) rfl isAx_fail ?_
  simp only [entryEnv, Nat.reduceAdd]
  repeat' (first | (apply W.drawQ (id := 5) (l1 := [0, 1, 2, 3, 4, 5, 6, 7, 8, 9, 10]) (l2 := [11, 12, 13]); kernel_rfl; kernel_rfl; kernel_rfl; exact Z4) | (refine ⟨⟨trivial, trivial⟩, ?_⟩) | (refine ⟨⟨rfl, rfl⟩, ?_⟩) | (refine Z5 rfl rfl ?_) | (refine Z8 rfl rfl ?_) | (refine Z6 ?_) | (refine Z9 ?_; simp only [tN, bN, eN, true_and]) | (apply Z7; exact rfl; exact rfl; exact Z1; simp only [pM, pN]) | refine Y1 ?_ | refine U7 ?_ | refine U8 ?_ | refine U9 ?_ | refine Y2 ?_ | ((first | refine Y3 ?_ | refine Y8 ?_); simp only [tN, bN, eN, true_and]) | (apply U4; exact Z1; exact rfl; simp only [pM, pN, rR, rP]) | (refine J3 rfl rfl ?_ ?_; exact Z2) | (refine J4 rfl rfl ?_ ?_; exact Z2; simp only [pM, pN, rR, rP]) | (apply U3; exact rfl; exact rfl; exact Z1; refine ⟨fun hh => ?_, fun hh => ?_⟩ <;> try simp only [Bool.not_true, Bool.not_false, pM, pN] at hh ⊢) | (apply U5; exact rfl; exact Z3; simp only [pM, pN, rR, rP]) | (simp only [tP, bP, eP, true_and]) | (refine Y7 ?_; simp only [tR, bR, eR, true_and]) | (refine Y9 ?_; simp only [tX, bS, bO, Nat.reduceBEq, tN, bN]) | (refine Y4 ?_ ?_; exact Z2) | (refine Y5 ?_ ?_; exact Z2) | (apply Y6; exact Z1; refine ⟨fun hh => ?_, fun hh => ?_⟩))
  refine W.loopN rs.length (fun k F => ∃ e lm hp u g, F = Fr.mk 156 false e lm hp [] none ∧ BltN h.next hp u 3 ((lims156 (rs.take k)).map limC.enc) ∧ (h.next ≤ hp.next ∧ ∀ id, id < h.next → hp.get id = h.get id) ∧
    lm.get 3 = some (g, [.int .i64 cy.lo, .int .i64 cy.hi, .int .i64 wy.lo, .int .i64 wy.hi, u]) ∧ lm.get 2 = some (0, [.int .i64 0, .int .i64 0, .int .i64 0, .int .i64 0, .nilslice]) ∧ e.get 2 = some (.lptr 2 0 0) ∧ e.get 3 = some (.lptr 3 g 0) ∧ e.get 15 = some ra ∧ e.get 16 = some (.int .i64 ↑rs.length) ∧ e.get 17 = some (.int .i64 ↑k) ∧ k ≤ rs.length) ?_ ?_
  · refine ⟨_, _, _, _, 0, rfl, BltN.nil, ⟨Nat.le_refl _, fun _ _ => rfl⟩, ?_, ?_, ?_, ?_, ?_, ?_, ?_, ?_⟩ <;> first | exact Z2 | simp [go_sem, *]
  rintro k F ⟨e, lm, hp, u, g, rfl, hB, hX, hl3, hl2, h2, h3, h15, h16, h17, hk⟩
  have hbo := hB.blt.out
  have hbc := hB.blt.cells
  have hbt := hB.blt.tup
  by_cases hlt : k < rs.length
  · obtain ⟨p, hp'⟩ := get_some hlt
    have hix := rdg_idx hr hp'
    have hd : decide ((k : Int) < (rs.length : Int)) = true := by simpa using hlt
    have hw := wrap_succ hlt hmax
    have hnx : lims156 (rs.take (k + 1)) = lims156 (rs.take k) ++ [⟨p.b, w64 (p.y - p.err), w64 (p.y + p.err)⟩] := by rw [take_next hp']; simp [lims156]
    have hll : ((lims156 (rs.take k)).map limC.enc).length + 1 ≤ most := by
      simp only [lims156, List.length_map, List.length_take]; unfold most; unfold maxL at hmax; omega
    clear hr hp'
    repeat' (first | (apply W.drawQ (id := 5) (l1 := [0, 1, 2, 3, 4, 5, 6, 7, 8, 9, 10]) (l2 := [11, 12, 13]); kernel_rfl; kernel_rfl; kernel_rfl; exact Z4) | (apply WO1.appendN (t := 226) (u := 226) (e := 230) (e' := 230) (sz := 3) (tl := []) (b := h.next) (h0 := h) (hb := hB) (hx := hX); exact Z1; exact rfl; (focus exact Z2); (focus exact Z2); (focus exact Z2); (focus (exact ty_row226)); exact Z1; (focus (intro v hv; simp at hv; rcases hv with rfl | rfl <;> rfl)); (focus (simp only [List.length_cons, List.length_nil]; exact hll)); (focus (simp)); (intro v' h' hB' ho' hX'; have hcc' := hB'.blt.cells; have htt' := hB'.blt.tup; simp only [AV.cells] at hcc'; simp only [isTuple] at htt'; simp only [pM, pN])) | (refine ⟨⟨trivial, trivial⟩, ?_⟩) | (refine ⟨⟨rfl, rfl⟩, ?_⟩) | (refine Z5 rfl rfl ?_) | (refine Z8 rfl rfl ?_) | (refine Z6 ?_) | (refine Z9 ?_; simp only [tN, bN, eN, true_and]) | (apply Z7; exact rfl; exact rfl; exact Z1; simp only [pM, pN]) | refine Y1 ?_ | refine U7 ?_ | refine U8 ?_ | refine U9 ?_ | refine Y2 ?_ | ((first | refine Y3 ?_ | refine Y8 ?_); simp only [tN, bN, eN, true_and]) | (apply U4; exact Z1; exact rfl; simp only [pM, pN, rR, rP]) | (refine J3 rfl rfl ?_ ?_; exact Z2) | (refine J4 rfl rfl ?_ ?_; exact Z2; simp only [pM, pN, rR, rP]) | (apply U3; exact rfl; exact rfl; exact Z1; refine ⟨fun hh => ?_, fun hh => ?_⟩ <;> try simp only [Bool.not_true, Bool.not_false, pM, pN] at hh ⊢) | (apply U6; exact Z1; exact Z1; (focus (simp only [List.nil_append, List.append_nil]; first | exact K190 hc2 _ _ _)); simp only [pM, pN, rR, rP]) | (apply U5; exact rfl; exact Z3; simp only [pM, pN, rR, rP]) | (simp only [tP, bP, eP, true_and]) | (refine Y7 ?_; simp only [tR, bR, eR, true_and]) | (refine Y9 ?_; simp only [tX, bS, bO, Nat.reduceBEq, tN, bN]) | (refine Y4 ?_ ?_; exact Z2) | (refine Y5 ?_ ?_; exact Z2) | (apply Y6; exact Z1; refine ⟨fun hh => ?_, fun hh => ?_⟩))
    refine ⟨hlt, _, _, _, v', g, rfl, ?_, hX', ?_, ?_, ?_, ?_, ?_, ?_, ?_, by omega⟩
    · rw [hnx]; simpa [limC] using hB'
    all_goals exact Z2
  · have hd : decide ((k : Int) < (rs.length : Int)) = false := by simpa using hlt
    have hkl : k = rs.length := by omega
    rw [hkl, List.take_length] at hB
    clear hkl hr
    repeat' (first | (apply W.drawQ (id := 5) (l1 := [0, 1, 2, 3, 4, 5, 6, 7, 8, 9, 10]) (l2 := [11, 12, 13]); kernel_rfl; kernel_rfl; kernel_rfl; exact Z4) | (refine ⟨⟨trivial, trivial⟩, ?_⟩) | (refine ⟨⟨rfl, rfl⟩, ?_⟩) | (refine Z5 rfl rfl ?_) | (refine Z8 rfl rfl ?_) | (refine Z6 ?_) | (refine Z9 ?_; simp only [tN, bN, eN, true_and]) | (apply Z7; exact rfl; exact rfl; exact Z1; simp only [pM, pN]) | refine Y1 ?_ | refine U7 ?_ | refine U8 ?_ | refine U9 ?_ | refine Y2 ?_ | ((first | refine Y3 ?_ | refine Y8 ?_); simp only [tN, bN, eN, true_and]) | (apply U4; exact Z1; exact rfl; simp only [pM, pN, rR, rP]) | (refine J3 rfl rfl ?_ ?_; exact Z2) | (refine J4 rfl rfl ?_ ?_; exact Z2; simp only [pM, pN, rR, rP]) | (apply U3; exact rfl; exact rfl; exact Z1; refine ⟨fun hh => ?_, fun hh => ?_⟩ <;> try simp only [Bool.not_true, Bool.not_false, pM, pN] at hh ⊢) | (apply U5; exact rfl; exact Z3; simp only [pM, pN, rR, rP]) | (simp only [tP, bP, eP, true_and]) | (refine Y7 ?_; simp only [tR, bR, eR, true_and]) | (refine Y9 ?_; simp only [tX, bS, bO, Nat.reduceBEq, tN, bN]) | (refine Y4 ?_ ?_; exact Z2) | (refine Y5 ?_ ?_; exact Z2) | (apply Y6; exact Z1; refine ⟨fun hh => ?_, fun hh => ?_⟩))
    all_goals simp only [resV_def (X := dX c) Tryz.func156, Tryz.results156, resultsV, resultV, go_sem, *, Nat.reduceLT, Int.reduceEq, Int.reduceBEq, Int.reduceLE, Int.reduceLT, Nat.reduceAdd, Nat.reduceBEq, Nat.reduceEqDiff, reduceIte, Nat.reduceLeDiff, Nat.reduceMul, Nat.reduceSub, reduceCtorEq, frzRes, dFrz, frzCells, isRet_ret, tupleOf]
    exact isAx_ret hB hX
end Go.AM
set_option maxRecDepth 100000
namespace Go.AM
open Go Go.Proofs
variable [Keep]
attribute [local irreducible] W WO WO1 WD WQ WT thenQ blockQ endR isRet retK Cl ClR
attribute [local irreducible] DefR
theorem eql_nn : binV Tryz.prog .eql 20 true .niliface .niliface = some (.bool true) := by kernel_rfl
theorem eql_in (t : TypeId) (v : AV) : binV Tryz.prog .eql 20 true (.iface t v) .niliface = some (.bool false) := by kernel_rfl
variable (c : FuncId → Option (List AV → Heap → Option (AV × Heap)))
theorem D154n (hn : Nat) (n : Nat) (m : Mp Blk) (Q : Heap → Option AV → Prop) (q : Q ⟨n, m⟩ none) : DefR (dX c) [(.func (.func 154) [] [.ptr hn 0, .ptr (hn + 1) 0], [])] ⟨n, m⟩ none Q := by
  have q := Lib.hid q
  have hq1 := eql_nn
  have hq2 := eql_in
  refine DefR.cons (g := 154) (X := dX c) Tryz.func154 (by kernel_rfl) rfl (by kernel_rfl) rfl ?_
  simp only [entryEnv, Nat.reduceAdd, List.nil_append, List.append_nil, Option.map_none]
  repeat' (first | (apply U5; exact rfl; (focus (intro cl rd; simp only [go_sem, *, Nat.reduceLT, Int.reduceEq, Int.reduceBEq, Int.reduceLE, Int.reduceLT, Nat.reduceAdd, Nat.reduceBEq, Nat.reduceEqDiff, reduceIte, Nat.reduceLeDiff, Nat.reduceMul, Nat.reduceSub, reduceCtorEq, efV, Fr.callOp, Fr.builtinE, Fr.recoverE, reduceIte, Bool.false_eq_true]; with_reducible rfl)); simp only [pM, pN]) | (simp only [endDef_norm]) | refine Y1 ?_ | refine U7 ?_ | refine U8 ?_ | refine U9 ?_ | refine Y2 ?_ | ((first | refine Y3 ?_ | refine Y8 ?_); simp only [tN, bN, eN, true_and]) | (apply U4; exact Z1; exact rfl; simp only [pM, pN, rR, rP]) | (refine J3 rfl rfl ?_ ?_; exact Z2) | (refine J4 rfl rfl ?_ ?_; exact Z2; simp only [pM, pN, rR, rP]) | (apply U3; exact rfl; exact rfl; exact Z1; refine ⟨fun hh => ?_, fun hh => ?_⟩ <;> try simp only [Bool.not_true, Bool.not_false, pM, pN] at hh ⊢) | (apply U5; exact rfl; exact Z3; simp only [pM, pN, rR, rP]) | (simp only [tP, bP, eP, true_and]) | (refine Y7 ?_; simp only [tR, bR, eR, true_and]) | (refine Y9 ?_; simp only [tX, bS, bO, Nat.reduceBEq, tN, bN]) | (refine Y4 ?_ ?_; exact Z2) | (refine Y5 ?_ ?_; exact Z2) | (apply Y6; exact Z1; refine ⟨fun hh => ?_, fun hh => ?_⟩))
  refine DefR.nil ?_
  exact q.out
theorem D154p (hn : Nat) (n : Nat) (m : Mp Blk) (a b : AV) (x : Int) (Q : Heap → Option AV → Prop) (hg : m.get hn = some (.var [a, b])) (hg1 : m.get (hn + 1) = some (.var [.bool false])) (q : ∀ m', m'.get hn = some (.var [.nilslice, .nilslice]) → m'.get (hn + 1) = some (.var [.bool false]) → (∀ id, id < hn → m'.get id = m.get id) → Q ⟨n, m'⟩ none) :
    DefR (dX c) [(.func (.func 154) [] [.ptr hn 0, .ptr (hn + 1) 0], [])] ⟨n, m⟩ (some (.iface 223 (.agg [.int .i64 x]))) Q := by
  have q := Lib.hid q
  have hq1 := eql_nn
  have hq2 := eql_in
  have h1 : (hn == hn + 1) = false := by simp
  have h2 : (hn + 1 == hn) = false := by simp
  refine DefR.cons (g := 154) (X := dX c) Tryz.func154 (by kernel_rfl) rfl (by kernel_rfl) rfl ?_
  simp only [entryEnv, Nat.reduceAdd, List.nil_append, List.append_nil, Option.map_some]
  repeat' (first | (apply U5; exact rfl; (focus (intro cl rd; simp only [go_sem, *, Nat.reduceLT, Int.reduceEq, Int.reduceBEq, Int.reduceLE, Int.reduceLT, Nat.reduceAdd, Nat.reduceBEq, Nat.reduceEqDiff, reduceIte, Nat.reduceLeDiff, Nat.reduceMul, Nat.reduceSub, reduceCtorEq, efV, Fr.callOp, Fr.builtinE, Fr.recoverE, reduceIte, Bool.false_eq_true]; with_reducible rfl)); simp only [pM, pN]) | (simp only [endDef_norm]) | refine Y1 ?_ | refine U7 ?_ | refine U8 ?_ | refine U9 ?_ | refine Y2 ?_ | ((first | refine Y3 ?_ | refine Y8 ?_); simp only [tN, bN, eN, true_and]) | (apply U4; exact Z1; exact rfl; simp only [pM, pN, rR, rP]) | (refine J3 rfl rfl ?_ ?_; exact Z2) | (refine J4 rfl rfl ?_ ?_; exact Z2; simp only [pM, pN, rR, rP]) | (apply U3; exact rfl; exact rfl; exact Z1; refine ⟨fun hh => ?_, fun hh => ?_⟩ <;> try simp only [Bool.not_true, Bool.not_false, pM, pN] at hh ⊢) | (apply U5; exact rfl; exact Z3; simp only [pM, pN, rR, rP]) | (simp only [tP, bP, eP, true_and]) | (refine Y7 ?_; simp only [tR, bR, eR, true_and]) | (refine Y9 ?_; simp only [tX, bS, bO, Nat.reduceBEq, tN, bN]) | (refine Y4 ?_ ?_; exact Z2) | (refine Y5 ?_ ?_; exact Z2) | (apply Y6; exact Z1; refine ⟨fun hh => ?_, fun hh => ?_⟩))
  refine DefR.nil ?_
  refine q.out _ ?_ ?_ ?_
  · simp only [go_sem, *, Nat.reduceLT, Int.reduceEq, Int.reduceBEq, Int.reduceLE, Int.reduceLT, Nat.reduceAdd, Nat.reduceBEq, Nat.reduceEqDiff, reduceIte, Nat.reduceLeDiff, Nat.reduceMul, Nat.reduceSub, reduceCtorEq]
  · simp only [go_sem, *, Nat.reduceLT, Int.reduceEq, Int.reduceBEq, Int.reduceLE, Int.reduceLT, Nat.reduceAdd, Nat.reduceBEq, Nat.reduceEqDiff, reduceIte, Nat.reduceLeDiff, Nat.reduceMul, Nat.reduceSub, reduceCtorEq]
  · intro id hid
    have e1 : (hn == id) = false := by simp; omega
    have e2 : (hn + 1 == id) = false := by simp; omega
    simp only [go_sem, *, Nat.reduceLT, Int.reduceEq, Int.reduceBEq, Int.reduceLE, Int.reduceLT, Nat.reduceAdd, Nat.reduceBEq, Nat.reduceEqDiff, reduceIte, Nat.reduceLeDiff, Nat.reduceMul, Nat.reduceSub, reduceCtorEq]
structure Held where
  b : Int
  x : Sp
  y : Sp
def heldC : Cd Held where
  enc p := .agg [.int .i64 p.b, .int .i64 p.x.lo, .int .i64 p.x.hi, .int .i64 p.y.lo, .int .i64 p.y.hi]
  dec a := match a with | .agg [.int .i64 b, .int .i64 x, .int .i64 y, .int .i64 z, .int .i64 w] => some ⟨b, ⟨x, y⟩, ⟨z, w⟩⟩ | _ => none
  de _ := rfl
  ed a x h := by split at h <;> cases h; rfl
  pur _ := rfl
theorem held_idx {a : AV} {l : List Held} (h : slV heldC a = some l) {k : Nat} {p : Held} (hp : l[k]? = some p) (H : Heap) : indexAddrV Tryz.prog H 173 a (.int .i64 ↑k) = some (.vptr [.int .i64 p.b, .int .i64 p.x.lo, .int .i64 p.x.hi, .int .i64 p.y.lo, .int .i64 p.y.hi]) :=
  (slV_is h).1.idx (x := heldC.enc p) Tryz.underlying173 ty_lay176 (by simp [hp]) rfl
theorem BltN.rdl {b : Nat} {h : Heap} {v : AV} {l : List Lim} (q : BltN b h v 3 (l.map limC.enc)) (hm : l.length ≤ maxL) : RdL h v l := by
  refine ⟨?_, q.blt.out, hm, q.blt.cells, q.blt.tup, ?_⟩
  · rcases q with ⟨rfl, e⟩ | ⟨id, rfl, h1, h2, h3, h4⟩
    · simp at e; subst e; rfl
    · simp [lenS]
  · intro k m hk hp hx
    have hkl : k < l.length := by
      rw [List.getElem?_eq_some_iff] at hk; exact hk.1
    rcases q with ⟨rfl, e⟩ | ⟨id, rfl, h1, h2, h3, h4⟩
    · simp at e; subst e; simp at hkl
    · refine ⟨.eptr id 3 k 0, ?_, fun f rnd e lm df up => ?_⟩
      · have hg := (hx id h3).trans h1
        have hi : idxV (.int .i64 ↑k) (l.map limC.enc).length = some k := by simp [idxV, hkl]
        simp only [indexAddrV, Tryz.underlying226, ty_lay230, hi, hg, if_true, Nat.zero_add]
      · have hg := (hx id h3).trans h1
        rw [mem_eptr]
        simp only [hg, List.getElem?_map, hk, Option.map_some, if_true, limC, AV.cells]
structure RdH (h : Heap) (v : AV) (l : List Held) : Prop where
  len : lenS v = some l.length
  out : outV (some v) = some v
  get : ∀ (k : Nat) (p : Held), l[k]? = some p → ∀ hp : Heap, (∀ id, id < h.next → hp.get id = h.get id) → ∃ ptr, indexAddrV Tryz.prog hp 173 v (.int .i64 ↑k) = some ptr ∧ ∀ f rnd e lm df up, (Fr.mk f rnd e lm hp df up).mem ptr = some ([.int .i64 p.b, .int .i64 p.x.lo, .int .i64 p.x.hi, .int .i64 p.y.lo, .int .i64 p.y.hi], 0)
theorem rdH_sl {h : Heap} {a : AV} {l : List Held} (q : slV heldC a = some l) : RdH h a l :=
  ⟨sl_len q, sl_out q, fun k p hp H _ => ⟨_, held_idx q hp H, fun f rnd e lm df up => mem_vptr ..⟩⟩
theorem rdH_row {h : Heap} {id off : Nat} {el : List AV} {l : List Held} (hg : h.get id = some (.rw 5 el)) (hid : id < h.next) (hl : (el.drop off).take l.length = l.map heldC.enc) (hle : off + l.length ≤ el.length) : RdH h (.row id off l.length) l := by
  refine ⟨by simp [lenS], rfl, fun k p hk hp hx => ?_⟩
  have hkl : k < l.length := (List.getElem?_eq_some_iff.1 hk).1
  have hg' := (hx id hid).trans hg
  have hi : idxV (.int .i64 ↑k) l.length = some k := by simp [idxV, hkl]
  refine ⟨.eptr id 5 (off + k) 0, ?_, fun f rnd e lm df up => ?_⟩
  · simp only [indexAddrV, Tryz.underlying173, ty_lay176, hi, hg', if_true]
  · have he : el[off + k]? = some (heldC.enc p) := by
      have : ((el.drop off).take l.length)[k]? = some (heldC.enc p) := by rw [hl]; simp [hk]
      rw [List.getElem?_take, if_pos hkl, List.getElem?_drop] at this
      exact this
    rw [mem_eptr]
    simp only [hg', he, if_true, heldC, AV.cells]
def ax0 (cx wx : Sp) (rs : List Rdg) (hs : List Held) : Ax := ⟨cx, wx, lims155 rs ++ hs.map fun p => (⟨p.b, p.x.lo, p.x.hi⟩ : Lim)⟩
def ax1 (cy wy : Sp) (rs : List Rdg) (hs : List Held) : Ax := ⟨cy, wy, lims156 rs ++ hs.map fun p => (⟨p.b, p.y.lo, p.y.hi⟩ : Lim)⟩
def knO : Option (List Sp) → Option (List Sp) → AV
  | some a, some b => .tuple [.agg [slN (a.map spC.enc), slN (b.map spC.enc)], .bool true]
  | _, _ => .tuple [.agg [.nilslice, .nilslice], .bool false]
theorem knO_no1 (x : Option (List Sp)) : knO none x = .tuple [.agg [.nilslice, .nilslice], .bool false] := by cases x <;> rfl
theorem knO_no2 (x : Option (List Sp)) : knO x none = .tuple [.agg [.nilslice, .nilslice], .bool false] := by cases x <;> rfl
def knV (A B : Ax) : AV := knO (boundsS A) (boundsS B)
theorem knV_def (A B : Ax) : knV A B = knO (boundsS A) (boundsS B) := rfl
def isKn (A B : Ax) (h : Heap) (r : COut) : Prop := ∃ h', (h.next ≤ h'.next ∧ ∀ id, id < h.next → h'.get id = h.get id) ∧ r = .ret (knV A B) h' none
def bOk (A : Ax) (v : AV) : Prop := ∃ o, boundsS A = some o ∧ v = slN (o.map spC.enc)
attribute [local irreducible] boundsS
theorem bOk.out {A : Ax} {v : AV} (h : bOk A v) : outV (some v) = some v ∧ (∀ H, frz1 H v = some (v, H)) ∧ v.cells = [v] ∧ isTuple v = false := by
  obtain ⟨o, _, rfl⟩ := h
  cases o <;> exact ⟨rfl, fun _ => rfl, rfl, rfl⟩
theorem knV_ok {A B : Ax} {a b : AV} (h : bOk A a) (k : bOk B b) : knV A B = .tuple [.agg [a, b], .bool true] := by
  obtain ⟨o, e, rfl⟩ := h
  obtain ⟨p, f, rfl⟩ := k
  rw [knV_def, e, f]; rfl
theorem knV_no1 {A B : Ax} (h : boundsS A = none) : knV A B = .tuple [.agg [.nilslice, .nilslice], .bool false] := by
  rw [knV_def, h, knO_no1]
theorem knV_no2 {A B : Ax} (h : boundsS B = none) : knV A B = .tuple [.agg [.nilslice, .nilslice], .bool false] := by
  rw [knV_def, h, knO_no2]
theorem ia169_0 (H : Heap) (s : Tmp) (g off : Nat) : indexAddrV Tryz.prog H 169 (.lptr s g off) (.int .i64 0) = some (.lptr s g off) := by
  simp only [indexAddrV, Tryz.underlying169, ty_lay48]; rfl
theorem ia169_1 (H : Heap) (s : Tmp) (g off : Nat) : indexAddrV Tryz.prog H 169 (.lptr s g off) (.int .i64 1) = some (.lptr s g (off + 2)) := by
  simp only [indexAddrV, Tryz.underlying169, ty_lay48]; rfl
theorem ia147_0 (H : Heap) (id off : Nat) : indexAddrV Tryz.prog H 147 (.ptr id off) (.int .i64 0) = some (.ptr id off) := by
  simp only [indexAddrV, Tryz.underlying147, ty_lay146]; rfl
theorem ia147_1 (H : Heap) (id off : Nat) : indexAddrV Tryz.prog H 147 (.ptr id off) (.int .i64 1) = some (.ptr id (off + 1)) := by
  simp only [indexAddrV, Tryz.underlying147, ty_lay146]; rfl
def stg (A B : Ax) (k : Nat) (a b : AV) : Prop := (if 1 ≤ k then bOk A a else a = .nilslice) ∧ (if 2 ≤ k then bOk B b else b = .nilslice)
set_option maxHeartbeats 1600000 in
theorem C103 (hc : c 103 = none) (hc5 : c 155 = none) (hc6 : c 156 = none) (hc7 : c 157 = none) (hc9 : c 191 = none) (hc2 : c 190 = some (pureFn sp190)) (sa mv ra ma : AV) (cx cy wx wy : Sp) (rs : List Rdg) (hs : List Held) (n : Nat) (m : Mp Blk) (hr : slV rdgC ra = some rs) (hm : RdH ⟨n, m⟩ ma hs) (hsum : rs.length + hs.length ≤ maxL) (hsa : sa.one = true) (hmv : mv.one = true) :
    ClR (dX c) 103 [.agg [sa, .int .i64 cx.lo, .int .i64 cx.hi, .int .i64 cy.lo, .int .i64 cy.hi, .int .i64 wx.lo, .int .i64 wx.hi, .int .i64 wy.lo, .int .i64 wy.hi, ra, mv], ma] ⟨n, m⟩ (isKn (ax0 cx wx rs hs) (ax1 cy wy rs hs) ⟨n, m⟩) := by
  have hlen := hm.len
  have hout := hm.out
  have hro := sl_out hr
  have HR := Lib.hid hr
  have HM := Lib.hid hm
  have hne1 : (n == n + 1) = false := by simp
  have hne2 : (n + 1 == n) = false := by simp
  clear hr hm
  refine ClR.walkD (c := _) hc Tryz.func103 rfl (by kernel_rfl) rfl ?_
  simp only [entryEnv, Nat.reduceAdd]
  repeat' (first | (apply U5; exact rfl; (focus (intro cl rd; simp only [go_sem, *, Nat.reduceLT, Int.reduceEq, Int.reduceBEq, Int.reduceLE, Int.reduceLT, Nat.reduceAdd, Nat.reduceBEq, Nat.reduceEqDiff, reduceIte, Nat.reduceLeDiff, Nat.reduceMul, Nat.reduceSub, reduceCtorEq, efV, Fr.deferE]; with_reducible rfl)); simp only [pM, pN]) | (apply W.drawQ (id := 9) (l1 := [0, 1, 2, 3, 4, 5, 6, 7, 8, 9]) (l2 := [10, 11, 12]); kernel_rfl; kernel_rfl; kernel_rfl; exact Z4) | (refine ⟨⟨trivial, trivial⟩, ?_⟩) | (refine ⟨⟨rfl, rfl⟩, ?_⟩) | (refine Z5 rfl rfl ?_) | (refine Z8 rfl rfl ?_) | (refine Z6 ?_) | (refine Z9 ?_; simp only [tN, bN, eN, true_and]) | (apply Z7; exact rfl; exact rfl; exact Z1; simp only [pM, pN]) | refine Y1 ?_ | refine U7 ?_ | refine U8 ?_ | refine U9 ?_ | refine Y2 ?_ | ((first | refine Y3 ?_ | refine Y8 ?_); simp only [tN, bN, eN, true_and]) | (apply U4; exact Z1; exact rfl; simp only [pM, pN, rR, rP]) | (refine J3 rfl rfl ?_ ?_; exact Z2) | (refine J4 rfl rfl ?_ ?_; exact Z2; simp only [pM, pN, rR, rP]) | (apply U3; exact rfl; exact rfl; exact Z1; refine ⟨fun hh => ?_, fun hh => ?_⟩ <;> try simp only [Bool.not_true, Bool.not_false, pM, pN] at hh ⊢) | (apply U5; exact rfl; exact Z3; simp only [pM, pN, rR, rP]) | (simp only [tP, bP, eP, true_and]) | (refine Y7 ?_; simp only [tR, bR, eR, true_and]) | (refine Y9 ?_; simp only [tX, bS, bO, Nat.reduceBEq, tN, bN]) | (refine Y4 ?_ ?_; exact Z2) | (refine Y5 ?_ ?_; exact Z2) | (apply Y6; exact Z1; refine ⟨fun hh => ?_, fun hh => ?_⟩))
  refine W.loopN 2 (fun k F => ∃ e lm pn pm a b, F = Fr.mk 103 false e lm ⟨pn, pm⟩ [(.func (.func 154) [] [.ptr n 0, .ptr (n + 1) 0], [])] none ∧ stg (ax0 cx wx rs hs) (ax1 cy wy rs hs) k a b ∧ pm.get n = some (.var [a, b]) ∧ pm.get (n + 1) = some (.var [.bool false]) ∧ (n + 2 ≤ pn ∧ ∀ id, id < n → pm.get id = m.get id) ∧
    e.get 1 = some ma ∧ e.get 4 = some (.ptr n 0) ∧ e.get 5 = some (.ptr (n + 1) 0) ∧ e.get 17 = some (.agg [.func (.func 155) [.agg [sa, .int .i64 cx.lo, .int .i64 cx.hi, .int .i64 cy.lo, .int .i64 cy.hi, .int .i64 wx.lo, .int .i64 wx.hi, .int .i64 wy.lo, .int .i64 wy.hi, ra, mv]] [], .func (.func 156) [.agg [sa, .int .i64 cx.lo, .int .i64 cx.hi, .int .i64 cy.lo, .int .i64 cy.hi, .int .i64 wx.lo, .int .i64 wx.hi, .int .i64 wy.lo, .int .i64 wy.hi, ra, mv]] []]) ∧ e.get 18 = some (.int .i64 ↑k) ∧ k ≤ 2) ?_ ?_
  · have hinit : ∀ id, id < n → ((m.set n (Blk.var [.nilslice, .nilslice])).set (n + 1) (.var [.bool false])).get id = m.get id := by
      intro id hid
      have e1 : (n == id) = false := by rw [beq_eq_false_iff_ne]; omega
      have e2 : (n + 1 == id) = false := by rw [beq_eq_false_iff_ne]; omega
      rw [get_set_lit _ _ _ _ e2, get_set_lit _ _ _ _ e1]
    refine ⟨_, _, _, _, .nilslice, .nilslice, rfl, by simp [stg], ?_, ?_, ⟨by omega, hinit⟩, ?_, ?_, ?_, ?_, ?_, ?_⟩
    clear hinit
    all_goals first | exact Z2 | (intro id hid; have e1 : (n == id) = false := by rw [beq_eq_false_iff_ne]; omega; have e2 : (n + 1 == id) = false := by rw [beq_eq_false_iff_ne]; omega; simp only [go_sem, *, Nat.reduceLT, Int.reduceEq, Int.reduceBEq, Int.reduceLE, Int.reduceLT, Nat.reduceAdd, Nat.reduceBEq, Nat.reduceEqDiff, reduceIte, Nat.reduceLeDiff, Nat.reduceMul, Nat.reduceSub, reduceCtorEq]; done) | simp [go_sem, *]
  rintro k F ⟨e, lm, pn, pm, a, b, rfl, hst, hg, hg1, hpx, h1, h4, h5, h17, h18, hk⟩
  have hk3 : k = 0 ∨ k = 1 ∨ k = 2 := by omega
  rcases hk3 with rfl | rfl | rfl
  · replace h18 : e.get 18 = some (.int .i64 0) := h18
    have hw0 : IntKind.i64.wrap (0 + 1) = 1 := by decide
    have hiv : idxV (.int .i64 0) 2 = some 0 := rfl
    have hia := ia169_0
    have hib := ia147_0
    have hw1 : IntKind.i64.wrap 1 = 1 := by decide
    have hc1 := C155 c hc5 hc2 sa mv ra cx cy wx wy rs ⟨pn, pm⟩ HR.out hsa hmv
    unfold ClR isAx at hc1
    obtain ⟨r, hcl, hq, u, rfl, hB, hX⟩ := hc1
    obtain ⟨rfl, rfl⟩ : a = .nilslice ∧ b = .nilslice := by simpa [stg] using hst
    have HA : RowKit.Hid True := Lib.hid trivial
    clear hst
    have HG := Lib.hid hg
    have HG1 := Lib.hid hg1
    clear hg hg1
    repeat' (first | (apply W.drawQ (id := 9) (l1 := [0, 1, 2, 3, 4, 5, 6, 7, 8, 9]) (l2 := [10, 11, 12]); kernel_rfl; kernel_rfl; kernel_rfl; exact Z4) | (refine ⟨⟨trivial, trivial⟩, ?_⟩) | (refine ⟨⟨rfl, rfl⟩, ?_⟩) | (refine Z5 rfl rfl ?_) | (refine Z8 rfl rfl ?_) | (refine Z6 ?_) | (refine Z9 ?_; simp only [tN, bN, eN, true_and]) | (apply Z7; exact rfl; exact rfl; exact Z1; simp only [pM, pN]) | refine Y1 ?_ | refine U7 ?_ | refine U8 ?_ | refine U9 ?_ | refine Y2 ?_ | ((first | refine Y3 ?_ | refine Y8 ?_); simp only [tN, bN, eN, true_and]) | (apply U4; exact Z1; exact rfl; simp only [pM, pN, rR, rP]) | (refine J3 rfl rfl ?_ ?_; exact Z2) | (refine J4 rfl rfl ?_ ?_; exact Z2; simp only [pM, pN, rR, rP]) | (apply U3; exact rfl; exact rfl; exact Z1; refine ⟨fun hh => ?_, fun hh => ?_⟩ <;> try simp only [Bool.not_true, Bool.not_false, pM, pN] at hh ⊢) | (apply U6; exact Z1; exact Z1; (focus (simp only [List.nil_append, List.append_nil]; first | exact hcl)); simp only [pM, pN, rR, rP]) | (apply U5; exact rfl; exact Z3; simp only [pM, pN, rR, rP]) | (simp only [tP, bP, eP, true_and]) | (refine Y7 ?_; simp only [tR, bR, eR, true_and]) | (refine Y9 ?_; simp only [tX, bS, bO, Nat.reduceBEq, tN, bN]) | (refine Y4 ?_ ?_; exact Z2) | (refine Y5 ?_ ?_; exact Z2) | (apply Y6; exact Z1; refine ⟨fun hh => ?_, fun hh => ?_⟩))
    refine W.loopN hs.length (fun j F => ∃ e lm hq u g, F = Fr.mk 103 false e lm hq [(.func (.func 154) [] [.ptr n 0, .ptr (n + 1) 0], [])] none ∧ BltN pn hq u 3 ((lims155 rs ++ (hs.take j).map fun p => (⟨p.b, p.x.lo, p.x.hi⟩ : Lim)).map limC.enc) ∧ (pn ≤ hq.next ∧ ∀ id, id < pn → hq.get id = (Heap.mk pn pm).get id) ∧
      lm.get 8 = some (g, [.int .i64 cx.lo, .int .i64 cx.hi, .int .i64 wx.lo, .int .i64 wx.hi, u]) ∧ e.get 8 = some (.lptr 8 g 0) ∧ e.get 1 = some ma ∧ e.get 4 = some (.ptr n 0) ∧ e.get 5 = some (.ptr (n + 1) 0) ∧ e.get 17 = some (.agg [.func (.func 155) [.agg [sa, .int .i64 cx.lo, .int .i64 cx.hi, .int .i64 cy.lo, .int .i64 cy.hi, .int .i64 wx.lo, .int .i64 wx.hi, .int .i64 wy.lo, .int .i64 wy.hi, ra, mv]] [], .func (.func 156) [.agg [sa, .int .i64 cx.lo, .int .i64 cx.hi, .int .i64 cy.lo, .int .i64 cy.hi, .int .i64 wx.lo, .int .i64 wx.hi, .int .i64 wy.lo, .int .i64 wy.hi, ra, mv]] []]) ∧
      e.get 6 = some (.int .i64 0) ∧ e.get 18 = some (.int .i64 0) ∧ e.get 24 = some ma ∧ e.get 25 = some (.int .i64 ↑hs.length) ∧ e.get 26 = some (.int .i64 ↑j) ∧ j ≤ hs.length) ?_ ?_
    · refine ⟨_, _, _, _, nextGen lm 8, rfl, by simpa using hB, hX, ?_, ?_, ?_, ?_, ?_, ?_, ?_, ?_, ?_, ?_, ?_, ?_⟩ <;> first | (simp only [nextGen, go_sem, *, Nat.reduceLT, Int.reduceEq, Int.reduceBEq, Int.reduceLE, Int.reduceLT, Nat.reduceAdd, Nat.reduceBEq, Nat.reduceEqDiff, reduceIte, Nat.reduceLeDiff, Nat.reduceMul, Nat.reduceSub, reduceCtorEq]; done) | simp [nextGen, go_sem, *, Nat.reduceLT, Int.reduceEq, Int.reduceBEq, Int.reduceLE, Int.reduceLT, Nat.reduceAdd, Nat.reduceBEq, Nat.reduceEqDiff, reduceIte, Nat.reduceLeDiff, Nat.reduceMul, Nat.reduceSub, reduceCtorEq]
    clear hcl hB hX h1 h4 h5 h17 h18
    rintro j F ⟨e, lm, hq, u, g, rfl, hB, hX, hl8, h8, h1, h4, h5, h17, h6, h18, h24, h25, h26, hj⟩
    have hbo := hB.blt.out
    have hbc := hB.blt.cells
    have hbt := hB.blt.tup
    by_cases hlt : j < hs.length
    · obtain ⟨p, hp'⟩ := get_some hlt
      obtain ⟨ptr, hptr, hmem⟩ := HM.out.get j p hp' hq (fun id hid => (hX.2 id (by have := hpx.1; simp only at hid; omega)).trans (hpx.2 id hid))
      have hd : decide ((j : Int) < (hs.length : Int)) = true := by simpa using hlt
      have hw := wrap_succ hlt (show hs.length ≤ maxL by omega)
      have hnx : (lims155 rs ++ (hs.take (j + 1)).map fun p => (⟨p.b, p.x.lo, p.x.hi⟩ : Lim)) = (lims155 rs ++ (hs.take j).map fun p => (⟨p.b, p.x.lo, p.x.hi⟩ : Lim)) ++ [(⟨p.b, p.x.lo, p.x.hi⟩ : Lim)] := by rw [take_next hp']; simp
      have hll : (((lims155 rs ++ (hs.take j).map fun p => (⟨p.b, p.x.lo, p.x.hi⟩ : Lim))).map limC.enc).length + 1 ≤ most := by
        simp only [lims155, List.length_map, List.length_append, List.length_take]; unfold most; unfold maxL at hsum; omega
      have HN := Lib.hid hnx
      clear hp' hnx
      repeat' (first | (apply W.drawQ (id := 9) (l1 := [0, 1, 2, 3, 4, 5, 6, 7, 8, 9]) (l2 := [10, 11, 12]); kernel_rfl; kernel_rfl; kernel_rfl; exact Z4) | (apply WO1.appendN (t := 226) (u := 226) (e := 230) (e' := 230) (sz := 3) (tl := []) (b := pn) (h0 := ⟨pn, pm⟩) (hb := hB) (hx := hX); exact Z1; exact rfl; (focus exact Z2); (focus exact Z2); (focus exact Z2); (focus (exact ty_row226)); exact Z1; (focus (intro v hv; simp at hv; rcases hv with rfl | rfl <;> rfl)); (focus (simp only [List.length_cons, List.length_nil]; exact hll)); (focus (simp)); (intro v' h' hB' ho' hX'; have hcc' := hB'.blt.cells; have htt' := hB'.blt.tup; simp only [AV.cells] at hcc'; simp only [isTuple] at htt'; simp only [pM, pN])) | (refine ⟨⟨trivial, trivial⟩, ?_⟩) | (refine ⟨⟨rfl, rfl⟩, ?_⟩) | (refine Z5 rfl rfl ?_) | (refine Z8 rfl rfl ?_) | (refine Z6 ?_) | (refine Z9 ?_; simp only [tN, bN, eN, true_and]) | (apply Z7; exact rfl; exact rfl; exact Z1; simp only [pM, pN]) | refine Y1 ?_ | refine U7 ?_ | refine U8 ?_ | refine U9 ?_ | refine Y2 ?_ | ((first | refine Y3 ?_ | refine Y8 ?_); simp only [tN, bN, eN, true_and]) | (apply U4; exact Z1; exact rfl; simp only [pM, pN, rR, rP]) | (refine J3 rfl rfl ?_ ?_; exact Z2) | (refine J4 rfl rfl ?_ ?_; exact Z2; simp only [pM, pN, rR, rP]) | (apply U3; exact rfl; exact rfl; exact Z1; refine ⟨fun hh => ?_, fun hh => ?_⟩ <;> try simp only [Bool.not_true, Bool.not_false, pM, pN] at hh ⊢) | (apply U5; exact rfl; exact Z3; simp only [pM, pN, rR, rP]) | (simp only [tP, bP, eP, true_and]) | (refine Y7 ?_; simp only [tR, bR, eR, true_and]) | (refine Y9 ?_; simp only [tX, bS, bO, Nat.reduceBEq, tN, bN]) | (refine Y4 ?_ ?_; exact Z2) | (refine Y5 ?_ ?_; exact Z2) | (apply Y6; exact Z1; refine ⟨fun hh => ?_, fun hh => ?_⟩))
      refine ⟨hlt, _, _, _, v', g, rfl, ?_, hX', ?_, ?_, ?_, ?_, ?_, ?_, ?_, ?_, ?_, ?_, ?_, by omega⟩
      · rw [HN.out]; simpa [limC] using hB'
      all_goals exact Z2
    · have hd : decide ((j : Int) < (hs.length : Int)) = false := by simpa using hlt
      have hjl : j = hs.length := by omega
      rw [hjl, List.take_length] at hB
      have hc1 := C157 c hc7 hc9 (ax0 cx wx rs hs) u hq (hB.rdl (by simp [lims155]; exact hsum))
      unfold ClR isBnd at hc1
      obtain ⟨r, hcl, hz, hzx, hzm⟩ := hc1
      have hcl : Cl (dX c) 157 [.agg [.int .i64 cx.lo, .int .i64 cx.hi, .int .i64 wx.lo, .int .i64 wx.hi, u]] hq r := hcl
      obtain ⟨zn, zm⟩ := hz
      have hzn : pn ≤ zn := Nat.le_trans hX.1 hzx.1
      have hzg : ∀ id, id < pn → zm.get id = pm.get id := fun id hid => (hzx.2 id (Nat.lt_of_lt_of_le hid hX.1)).trans (hX.2 id hid)
      have hg := (hzg n (by omega)).trans HG.out
      have hg1 := (hzg (n + 1) (by omega)).trans HG1.out
      have HZG := Lib.hid hzg
      clear hjl hX hzx hzg
      cases hbs : boundsS (ax0 cx wx rs hs) with
      | some o =>
        rw [hbs] at hzm
        have hva : bOk (ax0 cx wx rs hs) (slN (o.map spC.enc)) := ⟨o, hbs, rfl⟩
        simp only at hzm
        subst hzm
        generalize slN (o.map spC.enc) = va at hcl hva
        obtain ⟨hvo, hvf, hvc, hvt⟩ := hva.out
        simp only [AV.cells] at hvc
        simp only [isTuple] at hvt
        have hva := Lib.hid hva
        clear hbs
        repeat' (first | (apply W.drawQ (id := 9) (l1 := [0, 1, 2, 3, 4, 5, 6, 7, 8, 9]) (l2 := [10, 11, 12]); kernel_rfl; kernel_rfl; kernel_rfl; exact Z4) | (refine ⟨⟨trivial, trivial⟩, ?_⟩) | (refine ⟨⟨rfl, rfl⟩, ?_⟩) | (refine Z5 rfl rfl ?_) | (refine Z8 rfl rfl ?_) | (refine Z6 ?_) | (refine Z9 ?_; simp only [tN, bN, eN, true_and]) | (apply Z7; exact rfl; exact rfl; exact Z1; simp only [pM, pN]) | refine Y1 ?_ | refine U7 ?_ | refine U8 ?_ | refine U9 ?_ | refine Y2 ?_ | ((first | refine Y3 ?_ | refine Y8 ?_); simp only [tN, bN, eN, true_and]) | (apply U4; exact Z1; exact rfl; simp only [pM, pN, rR, rP]) | (refine J3 rfl rfl ?_ ?_; exact Z2) | (refine J4 rfl rfl ?_ ?_; exact Z2; simp only [pM, pN, rR, rP]) | (apply U3; exact rfl; exact rfl; exact Z1; refine ⟨fun hh => ?_, fun hh => ?_⟩ <;> try simp only [Bool.not_true, Bool.not_false, pM, pN] at hh ⊢) | (apply U6; exact Z1; exact Z1; (focus (simp only [List.nil_append, List.append_nil]; first | exact hcl)); simp only [pM, pN, rR, rP]) | (apply U5; exact rfl; exact Z3; simp only [pM, pN, rR, rP]) | (simp only [tP, bP, eP, true_and]) | (refine Y7 ?_; simp only [tR, bR, eR, true_and]) | (refine Y9 ?_; simp only [tX, bS, bO, Nat.reduceBEq, tN, bN]) | (refine Y4 ?_ ?_; exact Z2) | (refine Y5 ?_ ?_; exact Z2) | (apply Y6; exact Z1; refine ⟨fun hh => ?_, fun hh => ?_⟩))
        have hini : ∀ v id, id < n → (zm.set n v).get id = m.get id := by
          intro v id hid
          have e1 : (n == id) = false := by rw [beq_eq_false_iff_ne]; omega
          rw [get_set_lit _ _ _ _ e1, HZG.out id (by omega)]
          exact hpx.2 id hid
        refine ⟨by omega, _, _, _, _, va, .nilslice, rfl, by simp [stg]; exact hva.out, ?_, ?_, ⟨by omega, hini _⟩, ?_, ?_, ?_, ?_, ?_, by omega⟩
        all_goals (clear hini; first | exact Z2 | simp [go_sem, *])
      | none =>
        rw [hbs] at hzm
        obtain ⟨bb, hzm⟩ := hzm
        subst hzm
        have HBS := Lib.hid hbs
        clear hbs
        repeat' (first | (apply W.drawQ (id := 9) (l1 := [0, 1, 2, 3, 4, 5, 6, 7, 8, 9]) (l2 := [10, 11, 12]); kernel_rfl; kernel_rfl; kernel_rfl; exact Z4) | (simp only [endD_pan]) | (refine ⟨⟨trivial, trivial⟩, ?_⟩) | (refine ⟨⟨rfl, rfl⟩, ?_⟩) | (refine Z5 rfl rfl ?_) | (refine Z8 rfl rfl ?_) | (refine Z6 ?_) | (refine Z9 ?_; simp only [tN, bN, eN, true_and]) | (apply Z7; exact rfl; exact rfl; exact Z1; simp only [pM, pN]) | refine Y1 ?_ | refine U7 ?_ | refine U8 ?_ | refine U9 ?_ | refine Y2 ?_ | ((first | refine Y3 ?_ | refine Y8 ?_); simp only [tN, bN, eN, true_and]) | (apply U4; exact Z1; exact rfl; simp only [pM, pN, rR, rP]) | (refine J3 rfl rfl ?_ ?_; exact Z2) | (refine J4 rfl rfl ?_ ?_; exact Z2; simp only [pM, pN, rR, rP]) | (apply U3; exact rfl; exact rfl; exact Z1; refine ⟨fun hh => ?_, fun hh => ?_⟩ <;> try simp only [Bool.not_true, Bool.not_false, pM, pN] at hh ⊢) | (apply U6; exact Z1; exact Z1; (focus (simp only [List.nil_append, List.append_nil]; first | exact hcl)); simp only [pM, pN, rR, rP]) | (apply U5; exact rfl; exact Z3; simp only [pM, pN, rR, rP]) | (simp only [tP, bP, eP, true_and]) | (refine Y7 ?_; simp only [tR, bR, eR, true_and]) | (refine Y9 ?_; simp only [tX, bS, bO, Nat.reduceBEq, tN, bN]) | (refine Y4 ?_ ?_; exact Z2) | (refine Y5 ?_ ?_; exact Z2) | (apply Y6; exact Z1; refine ⟨fun hh => ?_, fun hh => ?_⟩))
        refine D154p c n zn zm .nilslice .nilslice bb _ hg hg1 fun m' q1 q2 q3 => afterD_none.2 ⟨⟨zn, m'⟩, ⟨by simp only; omega, fun id hid => (q3 id hid).trans ((HZG.out id (by simp only at hid; omega)).trans (hpx.2 id hid))⟩, ?_⟩
        rw [knV_no1 HBS.out]
        simp only [resV_def (X := dX c) Tryz.func103, Tryz.results103, resultsV, resultV, go_sem, *, Nat.reduceLT, Int.reduceEq, Int.reduceBEq, Int.reduceLE, Int.reduceLT, Nat.reduceAdd, Nat.reduceBEq, Nat.reduceEqDiff, reduceIte, Nat.reduceLeDiff, Nat.reduceMul, Nat.reduceSub, reduceCtorEq, frzRes, dFrz, frzCells, isRet_ret, tupleOf]
  · replace h18 : e.get 18 = some (.int .i64 1) := h18
    have hw0 : IntKind.i64.wrap (1 + 1) = 2 := by decide
    have hiv : idxV (.int .i64 1) 2 = some 1 := rfl
    have hia := ia169_1
    have hib := ia147_1
    have hw1 : IntKind.i64.wrap 2 = 2 := by decide
    have hc1 := C156 c hc6 hc2 sa mv ra cx cy wx wy rs ⟨pn, pm⟩ HR.out hsa hmv
    unfold ClR isAx at hc1
    obtain ⟨r, hcl, hq, u, rfl, hB, hX⟩ := hc1
    obtain ⟨hA, rfl⟩ : bOk (ax0 cx wx rs hs) a ∧ b = .nilslice := by simpa [stg] using hst
    obtain ⟨hao, hafz, hac, hat⟩ := hA.out
    simp only [AV.cells] at hac
    simp only [isTuple] at hat
    have HA := Lib.hid hA
    clear hA
    clear hst
    have HG := Lib.hid hg
    have HG1 := Lib.hid hg1
    clear hg hg1
    repeat' (first | (apply W.drawQ (id := 9) (l1 := [0, 1, 2, 3, 4, 5, 6, 7, 8, 9]) (l2 := [10, 11, 12]); kernel_rfl; kernel_rfl; kernel_rfl; exact Z4) | (refine ⟨⟨trivial, trivial⟩, ?_⟩) | (refine ⟨⟨rfl, rfl⟩, ?_⟩) | (refine Z5 rfl rfl ?_) | (refine Z8 rfl rfl ?_) | (refine Z6 ?_) | (refine Z9 ?_; simp only [tN, bN, eN, true_and]) | (apply Z7; exact rfl; exact rfl; exact Z1; simp only [pM, pN]) | refine Y1 ?_ | refine U7 ?_ | refine U8 ?_ | refine U9 ?_ | refine Y2 ?_ | ((first | refine Y3 ?_ | refine Y8 ?_); simp only [tN, bN, eN, true_and]) | (apply U4; exact Z1; exact rfl; simp only [pM, pN, rR, rP]) | (refine J3 rfl rfl ?_ ?_; exact Z2) | (refine J4 rfl rfl ?_ ?_; exact Z2; simp only [pM, pN, rR, rP]) | (apply U3; exact rfl; exact rfl; exact Z1; refine ⟨fun hh => ?_, fun hh => ?_⟩ <;> try simp only [Bool.not_true, Bool.not_false, pM, pN] at hh ⊢) | (apply U6; exact Z1; exact Z1; (focus (simp only [List.nil_append, List.append_nil]; first | exact hcl)); simp only [pM, pN, rR, rP]) | (apply U5; exact rfl; exact Z3; simp only [pM, pN, rR, rP]) | (simp only [tP, bP, eP, true_and]) | (refine Y7 ?_; simp only [tR, bR, eR, true_and]) | (refine Y9 ?_; simp only [tX, bS, bO, Nat.reduceBEq, tN, bN]) | (refine Y4 ?_ ?_; exact Z2) | (refine Y5 ?_ ?_; exact Z2) | (apply Y6; exact Z1; refine ⟨fun hh => ?_, fun hh => ?_⟩))
    refine W.loopN hs.length (fun j F => ∃ e lm hq u g, F = Fr.mk 103 false e lm hq [(.func (.func 154) [] [.ptr n 0, .ptr (n + 1) 0], [])] none ∧ BltN pn hq u 3 ((lims156 rs ++ (hs.take j).map fun p => (⟨p.b, p.y.lo, p.y.hi⟩ : Lim)).map limC.enc) ∧ (pn ≤ hq.next ∧ ∀ id, id < pn → hq.get id = (Heap.mk pn pm).get id) ∧
      lm.get 8 = some (g, [.int .i64 cy.lo, .int .i64 cy.hi, .int .i64 wy.lo, .int .i64 wy.hi, u]) ∧ e.get 8 = some (.lptr 8 g 0) ∧ e.get 1 = some ma ∧ e.get 4 = some (.ptr n 0) ∧ e.get 5 = some (.ptr (n + 1) 0) ∧ e.get 17 = some (.agg [.func (.func 155) [.agg [sa, .int .i64 cx.lo, .int .i64 cx.hi, .int .i64 cy.lo, .int .i64 cy.hi, .int .i64 wx.lo, .int .i64 wx.hi, .int .i64 wy.lo, .int .i64 wy.hi, ra, mv]] [], .func (.func 156) [.agg [sa, .int .i64 cx.lo, .int .i64 cx.hi, .int .i64 cy.lo, .int .i64 cy.hi, .int .i64 wx.lo, .int .i64 wx.hi, .int .i64 wy.lo, .int .i64 wy.hi, ra, mv]] []]) ∧
      e.get 6 = some (.int .i64 1) ∧ e.get 18 = some (.int .i64 1) ∧ e.get 24 = some ma ∧ e.get 25 = some (.int .i64 ↑hs.length) ∧ e.get 26 = some (.int .i64 ↑j) ∧ j ≤ hs.length) ?_ ?_
    · refine ⟨_, _, _, _, nextGen lm 8, rfl, by simpa using hB, hX, ?_, ?_, ?_, ?_, ?_, ?_, ?_, ?_, ?_, ?_, ?_, ?_⟩ <;> first | (simp only [nextGen, go_sem, *, Nat.reduceLT, Int.reduceEq, Int.reduceBEq, Int.reduceLE, Int.reduceLT, Nat.reduceAdd, Nat.reduceBEq, Nat.reduceEqDiff, reduceIte, Nat.reduceLeDiff, Nat.reduceMul, Nat.reduceSub, reduceCtorEq]; done) | simp [nextGen, go_sem, *, Nat.reduceLT, Int.reduceEq, Int.reduceBEq, Int.reduceLE, Int.reduceLT, Nat.reduceAdd, Nat.reduceBEq, Nat.reduceEqDiff, reduceIte, Nat.reduceLeDiff, Nat.reduceMul, Nat.reduceSub, reduceCtorEq]
    clear hcl hB hX h1 h4 h5 h17 h18
    rintro j F ⟨e, lm, hq, u, g, rfl, hB, hX, hl8, h8, h1, h4, h5, h17, h6, h18, h24, h25, h26, hj⟩
    have hbo := hB.blt.out
    have hbc := hB.blt.cells
    have hbt := hB.blt.tup
    by_cases hlt : j < hs.length
    · obtain ⟨p, hp'⟩ := get_some hlt
      obtain ⟨ptr, hptr, hmem⟩ := HM.out.get j p hp' hq (fun id hid => (hX.2 id (by have := hpx.1; simp only at hid; omega)).trans (hpx.2 id hid))
      have hd : decide ((j : Int) < (hs.length : Int)) = true := by simpa using hlt
      have hw := wrap_succ hlt (show hs.length ≤ maxL by omega)
      have hnx : (lims156 rs ++ (hs.take (j + 1)).map fun p => (⟨p.b, p.y.lo, p.y.hi⟩ : Lim)) = (lims156 rs ++ (hs.take j).map fun p => (⟨p.b, p.y.lo, p.y.hi⟩ : Lim)) ++ [(⟨p.b, p.y.lo, p.y.hi⟩ : Lim)] := by rw [take_next hp']; simp
      have hll : (((lims156 rs ++ (hs.take j).map fun p => (⟨p.b, p.y.lo, p.y.hi⟩ : Lim))).map limC.enc).length + 1 ≤ most := by
        simp only [lims156, List.length_map, List.length_append, List.length_take]; unfold most; unfold maxL at hsum; omega
      have HN := Lib.hid hnx
      clear hp' hnx
      repeat' (first | (apply W.drawQ (id := 9) (l1 := [0, 1, 2, 3, 4, 5, 6, 7, 8, 9]) (l2 := [10, 11, 12]); kernel_rfl; kernel_rfl; kernel_rfl; exact Z4) | (apply WO1.appendN (t := 226) (u := 226) (e := 230) (e' := 230) (sz := 3) (tl := []) (b := pn) (h0 := ⟨pn, pm⟩) (hb := hB) (hx := hX); exact Z1; exact rfl; (focus exact Z2); (focus exact Z2); (focus exact Z2); (focus (exact ty_row226)); exact Z1; (focus (intro v hv; simp at hv; rcases hv with rfl | rfl <;> rfl)); (focus (simp only [List.length_cons, List.length_nil]; exact hll)); (focus (simp)); (intro v' h' hB' ho' hX'; have hcc' := hB'.blt.cells; have htt' := hB'.blt.tup; simp only [AV.cells] at hcc'; simp only [isTuple] at htt'; simp only [pM, pN])) | (refine ⟨⟨trivial, trivial⟩, ?_⟩) | (refine ⟨⟨rfl, rfl⟩, ?_⟩) | (refine Z5 rfl rfl ?_) | (refine Z8 rfl rfl ?_) | (refine Z6 ?_) | (refine Z9 ?_; simp only [tN, bN, eN, true_and]) | (apply Z7; exact rfl; exact rfl; exact Z1; simp only [pM, pN]) | refine Y1 ?_ | refine U7 ?_ | refine U8 ?_ | refine U9 ?_ | refine Y2 ?_ | ((first | refine Y3 ?_ | refine Y8 ?_); simp only [tN, bN, eN, true_and]) | (apply U4; exact Z1; exact rfl; simp only [pM, pN, rR, rP]) | (refine J3 rfl rfl ?_ ?_; exact Z2) | (refine J4 rfl rfl ?_ ?_; exact Z2; simp only [pM, pN, rR, rP]) | (apply U3; exact rfl; exact rfl; exact Z1; refine ⟨fun hh => ?_, fun hh => ?_⟩ <;> try simp only [Bool.not_true, Bool.not_false, pM, pN] at hh ⊢) | (apply U5; exact rfl; exact Z3; simp only [pM, pN, rR, rP]) | (simp only [tP, bP, eP, true_and]) | (refine Y7 ?_; simp only [tR, bR, eR, true_and]) | (refine Y9 ?_; simp only [tX, bS, bO, Nat.reduceBEq, tN, bN]) | (refine Y4 ?_ ?_; exact Z2) | (refine Y5 ?_ ?_; exact Z2) | (apply Y6; exact Z1; refine ⟨fun hh => ?_, fun hh => ?_⟩))
      refine ⟨hlt, _, _, _, v', g, rfl, ?_, hX', ?_, ?_, ?_, ?_, ?_, ?_, ?_, ?_, ?_, ?_, ?_, by omega⟩
      · rw [HN.out]; simpa [limC] using hB'
      all_goals exact Z2
    · have hd : decide ((j : Int) < (hs.length : Int)) = false := by simpa using hlt
      have hjl : j = hs.length := by omega
      rw [hjl, List.take_length] at hB
      have hc1 := C157 c hc7 hc9 (ax1 cy wy rs hs) u hq (hB.rdl (by simp [lims156]; exact hsum))
      unfold ClR isBnd at hc1
      obtain ⟨r, hcl, hz, hzx, hzm⟩ := hc1
      have hcl : Cl (dX c) 157 [.agg [.int .i64 cy.lo, .int .i64 cy.hi, .int .i64 wy.lo, .int .i64 wy.hi, u]] hq r := hcl
      obtain ⟨zn, zm⟩ := hz
      have hzn : pn ≤ zn := Nat.le_trans hX.1 hzx.1
      have hzg : ∀ id, id < pn → zm.get id = pm.get id := fun id hid => (hzx.2 id (Nat.lt_of_lt_of_le hid hX.1)).trans (hX.2 id hid)
      have hg := (hzg n (by omega)).trans HG.out
      have hg1 := (hzg (n + 1) (by omega)).trans HG1.out
      have HZG := Lib.hid hzg
      clear hjl hX hzx hzg
      cases hbs : boundsS (ax1 cy wy rs hs) with
      | some o =>
        rw [hbs] at hzm
        have hva : bOk (ax1 cy wy rs hs) (slN (o.map spC.enc)) := ⟨o, hbs, rfl⟩
        simp only at hzm
        subst hzm
        generalize slN (o.map spC.enc) = va at hcl hva
        obtain ⟨hvo, hvf, hvc, hvt⟩ := hva.out
        simp only [AV.cells] at hvc
        simp only [isTuple] at hvt
        have hva := Lib.hid hva
        clear hbs
        repeat' (first | (apply W.drawQ (id := 9) (l1 := [0, 1, 2, 3, 4, 5, 6, 7, 8, 9]) (l2 := [10, 11, 12]); kernel_rfl; kernel_rfl; kernel_rfl; exact Z4) | (refine ⟨⟨trivial, trivial⟩, ?_⟩) | (refine ⟨⟨rfl, rfl⟩, ?_⟩) | (refine Z5 rfl rfl ?_) | (refine Z8 rfl rfl ?_) | (refine Z6 ?_) | (refine Z9 ?_; simp only [tN, bN, eN, true_and]) | (apply Z7; exact rfl; exact rfl; exact Z1; simp only [pM, pN]) | refine Y1 ?_ | refine U7 ?_ | refine U8 ?_ | refine U9 ?_ | refine Y2 ?_ | ((first | refine Y3 ?_ | refine Y8 ?_); simp only [tN, bN, eN, true_and]) | (apply U4; exact Z1; exact rfl; simp only [pM, pN, rR, rP]) | (refine J3 rfl rfl ?_ ?_; exact Z2) | (refine J4 rfl rfl ?_ ?_; exact Z2; simp only [pM, pN, rR, rP]) | (apply U3; exact rfl; exact rfl; exact Z1; refine ⟨fun hh => ?_, fun hh => ?_⟩ <;> try simp only [Bool.not_true, Bool.not_false, pM, pN] at hh ⊢) | (apply U6; exact Z1; exact Z1; (focus (simp only [List.nil_append, List.append_nil]; first | exact hcl)); simp only [pM, pN, rR, rP]) | (apply U5; exact rfl; exact Z3; simp only [pM, pN, rR, rP]) | (simp only [tP, bP, eP, true_and]) | (refine Y7 ?_; simp only [tR, bR, eR, true_and]) | (refine Y9 ?_; simp only [tX, bS, bO, Nat.reduceBEq, tN, bN]) | (refine Y4 ?_ ?_; exact Z2) | (refine Y5 ?_ ?_; exact Z2) | (apply Y6; exact Z1; refine ⟨fun hh => ?_, fun hh => ?_⟩))
        have hini : ∀ v id, id < n → (zm.set n v).get id = m.get id := by
          intro v id hid
          have e1 : (n == id) = false := by rw [beq_eq_false_iff_ne]; omega
          rw [get_set_lit _ _ _ _ e1, HZG.out id (by omega)]
          exact hpx.2 id hid
        refine ⟨by omega, _, _, _, _, a, va, rfl, by simp [stg]; exact ⟨HA.out, hva.out⟩, ?_, ?_, ⟨by omega, hini _⟩, ?_, ?_, ?_, ?_, ?_, by omega⟩
        all_goals (clear hini; first | exact Z2 | simp [go_sem, *])
      | none =>
        rw [hbs] at hzm
        obtain ⟨bb, hzm⟩ := hzm
        subst hzm
        have HBS := Lib.hid hbs
        clear hbs
        repeat' (first | (apply W.drawQ (id := 9) (l1 := [0, 1, 2, 3, 4, 5, 6, 7, 8, 9]) (l2 := [10, 11, 12]); kernel_rfl; kernel_rfl; kernel_rfl; exact Z4) | (simp only [endD_pan]) | (refine ⟨⟨trivial, trivial⟩, ?_⟩) | (refine ⟨⟨rfl, rfl⟩, ?_⟩) | (refine Z5 rfl rfl ?_) | (refine Z8 rfl rfl ?_) | (refine Z6 ?_) | (refine Z9 ?_; simp only [tN, bN, eN, true_and]) | (apply Z7; exact rfl; exact rfl; exact Z1; simp only [pM, pN]) | refine Y1 ?_ | refine U7 ?_ | refine U8 ?_ | refine U9 ?_ | refine Y2 ?_ | ((first | refine Y3 ?_ | refine Y8 ?_); simp only [tN, bN, eN, true_and]) | (apply U4; exact Z1; exact rfl; simp only [pM, pN, rR, rP]) | (refine J3 rfl rfl ?_ ?_; exact Z2) | (refine J4 rfl rfl ?_ ?_; exact Z2; simp only [pM, pN, rR, rP]) | (apply U3; exact rfl; exact rfl; exact Z1; refine ⟨fun hh => ?_, fun hh => ?_⟩ <;> try simp only [Bool.not_true, Bool.not_false, pM, pN] at hh ⊢) | (apply U6; exact Z1; exact Z1; (focus (simp only [List.nil_append, List.append_nil]; first | exact hcl)); simp only [pM, pN, rR, rP]) | (apply U5; exact rfl; exact Z3; simp only [pM, pN, rR, rP]) | (simp only [tP, bP, eP, true_and]) | (refine Y7 ?_; simp only [tR, bR, eR, true_and]) | (refine Y9 ?_; simp only [tX, bS, bO, Nat.reduceBEq, tN, bN]) | (refine Y4 ?_ ?_; exact Z2) | (refine Y5 ?_ ?_; exact Z2) | (apply Y6; exact Z1; refine ⟨fun hh => ?_, fun hh => ?_⟩))
        refine D154p c n zn zm a .nilslice bb _ hg hg1 fun m' q1 q2 q3 => afterD_none.2 ⟨⟨zn, m'⟩, ⟨by simp only; omega, fun id hid => (q3 id hid).trans ((HZG.out id (by simp only at hid; omega)).trans (hpx.2 id hid))⟩, ?_⟩
        rw [knV_no2 HBS.out]
        simp only [resV_def (X := dX c) Tryz.func103, Tryz.results103, resultsV, resultV, go_sem, *, Nat.reduceLT, Int.reduceEq, Int.reduceBEq, Int.reduceLE, Int.reduceLT, Nat.reduceAdd, Nat.reduceBEq, Nat.reduceEqDiff, reduceIte, Nat.reduceLeDiff, Nat.reduceMul, Nat.reduceSub, reduceCtorEq, frzRes, dFrz, frzCells, isRet_ret, tupleOf]
  · replace h18 : e.get 18 = some (.int .i64 2) := h18
    obtain ⟨hA, hB⟩ : bOk (ax0 cx wx rs hs) a ∧ bOk (ax1 cy wy rs hs) b := by simpa [stg] using hst
    obtain ⟨hao, hafz, hac, hat⟩ := hA.out
    obtain ⟨hbo, hbfz, hbc, hbt⟩ := hB.out
    have HA := Lib.hid hA
    have HB := Lib.hid hB
    have HPX := Lib.hid hpx
    clear hst hA hB hpx
    repeat' (first | (apply W.drawQ (id := 9) (l1 := [0, 1, 2, 3, 4, 5, 6, 7, 8, 9]) (l2 := [10, 11, 12]); kernel_rfl; kernel_rfl; kernel_rfl; exact Z4) | (refine Y7 ?_; simp only [endD_ret]) | (refine ⟨⟨trivial, trivial⟩, ?_⟩) | (refine ⟨⟨rfl, rfl⟩, ?_⟩) | (refine Z5 rfl rfl ?_) | (refine Z8 rfl rfl ?_) | (refine Z6 ?_) | (refine Z9 ?_; simp only [tN, bN, eN, true_and]) | (apply Z7; exact rfl; exact rfl; exact Z1; simp only [pM, pN]) | refine Y1 ?_ | refine U7 ?_ | refine U8 ?_ | refine U9 ?_ | refine Y2 ?_ | ((first | refine Y3 ?_ | refine Y8 ?_); simp only [tN, bN, eN, true_and]) | (apply U4; exact Z1; exact rfl; simp only [pM, pN, rR, rP]) | (refine J3 rfl rfl ?_ ?_; exact Z2) | (refine J4 rfl rfl ?_ ?_; exact Z2; simp only [pM, pN, rR, rP]) | (apply U3; exact rfl; exact rfl; exact Z1; refine ⟨fun hh => ?_, fun hh => ?_⟩ <;> try simp only [Bool.not_true, Bool.not_false, pM, pN] at hh ⊢) | (apply U5; exact rfl; exact Z3; simp only [pM, pN, rR, rP]) | (simp only [tP, bP, eP, true_and]) | (refine Y7 ?_; simp only [tR, bR, eR, true_and]) | (refine Y9 ?_; simp only [tX, bS, bO, Nat.reduceBEq, tN, bN]) | (refine Y4 ?_ ?_; exact Z2) | (refine Y5 ?_ ?_; exact Z2) | (apply Y6; exact Z1; refine ⟨fun hh => ?_, fun hh => ?_⟩))
    refine D154n c n _ _ _ ?_
    refine afterD_none.2 ⟨⟨pn, (pm.set n (.var [a, b])).set (n + 1) (.var [.bool true])⟩, ?_, ?_⟩
    rotate_left
    · rw [knV_ok HA.out HB.out]
      simp only [resV_def (X := dX c) Tryz.func103, Tryz.results103, resultsV, resultV, go_sem, *, Nat.reduceLT, Int.reduceEq, Int.reduceBEq, Int.reduceLE, Int.reduceLT, Nat.reduceAdd, Nat.reduceBEq, Nat.reduceEqDiff, reduceIte, Nat.reduceLeDiff, Nat.reduceMul, Nat.reduceSub, reduceCtorEq, frzRes, dFrz, frzCells, isRet_ret, tupleOf]
    · refine ⟨by simp only; have := HPX.out.1; omega, fun id hid => ?_⟩
      have hid : id < n := hid
      have e1 : (n == id) = false := by rw [beq_eq_false_iff_ne]; omega
      have e2 : (n + 1 == id) = false := by rw [beq_eq_false_iff_ne]; omega
      rw [hp_get, hp_get, get_set_lit _ _ _ _ e2, get_set_lit _ _ _ _ e1]
      exact HPX.out.2 id hid
end Go.AM
set_option maxRecDepth 100000
namespace Go.AM
open Go Go.Proofs
variable [Keep]
attribute [local irreducible] W WO WO1 WD WQ WT thenQ blockQ endR isRet retK Cl ClR
def sp103 : List AV → Option AV
  | [.agg [sa, .int .i64 cxl, .int .i64 cxh, .int .i64 cyl, .int .i64 cyh, .int .i64 wxl, .int .i64 wxh, .int .i64 wyl, .int .i64 wyh, ra, mv], ma] =>
    match slV rdgC ra, slV heldC ma with
    | some rs, some hs => if (Nat.ble (rs.length + hs.length) maxL && sa.one && mv.one) = true then some (knV (ax0 ⟨cxl, cxh⟩ ⟨wxl, wxh⟩ rs hs) (ax1 ⟨cyl, cyh⟩ ⟨wyl, wyh⟩ rs hs)) else none
    | _, _ => none
  | _ => none
theorem slN_purL {l : List AV} (h : ∀ a ∈ l, a.pur = true) : (slN l).pur = true := by
  cases l with
  | nil => rfl
  | cons a l => exact purL_mem.2 h
theorem spL_pur (l : List Sp) : (slN (l.map spC.enc)).pur = true := slN_purL fun a ha => by
  obtain ⟨p, _, rfl⟩ := List.mem_map.1 ha
  rfl
theorem knV_pur (A B : Ax) : (knV A B).pur = true := by
  rw [knV_def]
  cases h1 : boundsS A <;> cases h2 : boundsS B <;> simp only [knO, AV.pur, AV.purL, spL_pur, Bool.and_self]
theorem p103 : ∀ args v, sp103 args = some v → v.pur = true := by
  intro args v h
  unfold sp103 at h
  split at h
  · split at h
    · split at h
      · cases h; exact knV_pur _ _
      · cases h
    · cases h
  · cases h
noncomputable def cN : FuncId → Option (List AV → Heap → Option (AV × Heap))
  | 190 => some (pureFn sp190)
  | _ => none
theorem cN_sound : Sound (dX cN) := dX_sound (fun f g h => by
  unfold cN at h
  split at h
  · cases h; exact F190
  · cases h)
end Go.AM
set_option maxRecDepth 100000
namespace Go.AM
open Go Go.Proofs
variable [Keep]
attribute [local irreducible] W WO WO1 WD WQ WT thenQ blockQ endR isRet retK Cl ClR
theorem int_idx {a : AV} {l : List Int} (h : slV intC a = some l) {k : Nat} {p : Int} (hp : l[k]? = some p) (H : Heap) : indexAddrV Tryz.prog H 39 a (.int .i64 ↑k) = some (.vptr [.int .i64 p]) :=
  (slV_is h).1.idx (x := intC.enc p) Tryz.underlying39 ty_lay3 (by simp [hp]) rfl
def sp166 : List AV → Option AV
  | [a, .int .i64 v] => (slV intC a).map fun l => .int .i64 (idxOf (fun x => decide (v = x)) l)
  | _ => none
theorem p166 : ∀ args v, sp166 args = some v → v.flat = true := by
  intro args v h
  unfold sp166 at h
  split at h
  · simp only [Option.map_eq_some_iff] at h; obtain ⟨l, _, rfl⟩ := h; rfl
  · cases h
theorem C166 (c : FuncId → Option (List AV → Heap → Option (AV × Heap))) (hc : c 166 = none) (a : AV) (l : List Int) (ha : slV intC a = some l) (v : Int) (h : Heap) : ClR (dX c) 166 [a, .int .i64 v] h (isRet (.int .i64 (idxOf (fun x => decide (v = x)) l))) := by
  have hlen := sl_len ha
  have hout := sl_out ha
  have hmax := sl_max ha
  refine ClR.walk (c := _) hc Tryz.func166 rfl (by kernel_rfl) rfl isRet_fail ?_
  simp only [entryEnv, Nat.reduceAdd]
  repeat' (first | refine Y1 ?_ | refine U7 ?_ | refine U8 ?_ | refine U9 ?_ | refine Y2 ?_ | ((first | refine Y3 ?_ | refine Y8 ?_); simp only [tN, bN, eN, true_and]) | (apply U4; exact Z1; exact rfl; simp only [pM, pN, rR, rP]) | (refine J3 rfl rfl ?_ ?_; exact Z2) | (refine J4 rfl rfl ?_ ?_; exact Z2; simp only [pM, pN, rR, rP]) | (apply U3; exact rfl; exact rfl; exact Z1; refine ⟨fun hh => ?_, fun hh => ?_⟩ <;> try simp only [Bool.not_true, Bool.not_false, pM, pN] at hh ⊢) | (apply U5; exact rfl; exact Z3; simp only [pM, pN, rR, rP]) | (simp only [tP, bP, eP, true_and]) | (refine Y7 ?_; simp only [tR, bR, eR, true_and]) | (refine Y9 ?_; simp only [tX, bS, bO, Nat.reduceBEq, tN, bN]) | (refine Y4 ?_ ?_; exact Z2) | (refine Y5 ?_ ?_; exact Z2) | (apply Y6; exact Z1; refine ⟨fun hh => ?_, fun hh => ?_⟩))
  refine W.loopN l.length (fun k F => ∃ e, F = Fr.mk 166 false e .nil h [] none ∧ (l.take k).all (fun x => !decide (v = x)) = true ∧ e.get 0 = some a ∧ e.get 1 = some (.int .i64 v) ∧ e.get 7 = some (.int .i64 ↑l.length) ∧ e.get 8 = some (.int .i64 ↑k) ∧ k ≤ l.length) ?_ ?_
  · refine ⟨_, rfl, ?_, ?_, ?_, ?_, ?_, ?_⟩ <;> simp [go_sem, *]
  rintro k F ⟨e, rfl, hall, h0, h1, h7, h8, hk⟩
  have HA := Lib.hid hall
  clear hall
  by_cases hlt : k < l.length
  · obtain ⟨p, hp⟩ := get_some hlt
    have hix := int_idx ha hp
    have hd : decide ((k : Int) < (l.length : Int)) = true := by simpa using hlt
    have hw := wrap_succ hlt hmax
    have hnx := take_next hp
    by_cases hvp : v = p
    · have HI := Lib.hid (idxOf_at (pb := fun x => decide (v = x)) HA.out hp (by simpa using hvp))
      have hb : decide (v = p) = true := by simpa using hvp
      have hb2 : (v == p) = true := by simpa using hvp
      clear ha hp hnx hvp
      repeat' (first | refine Y1 ?_ | refine U7 ?_ | refine U8 ?_ | refine U9 ?_ | refine Y2 ?_ | ((first | refine Y3 ?_ | refine Y8 ?_); simp only [tN, bN, eN, true_and]) | (apply U4; exact Z1; exact rfl; simp only [pM, pN, rR, rP]) | (refine J3 rfl rfl ?_ ?_; exact Z2) | (refine J4 rfl rfl ?_ ?_; exact Z2; simp only [pM, pN, rR, rP]) | (apply U3; exact rfl; exact rfl; exact Z1; refine ⟨fun hh => ?_, fun hh => ?_⟩ <;> try simp only [Bool.not_true, Bool.not_false, pM, pN] at hh ⊢) | (apply U5; exact rfl; exact Z3; simp only [pM, pN, rR, rP]) | (simp only [tP, bP, eP, true_and]) | (refine Y7 ?_; simp only [tR, bR, eR, true_and]) | (refine Y9 ?_; simp only [tX, bS, bO, Nat.reduceBEq, tN, bN]) | (refine Y4 ?_ ?_; exact Z2) | (refine Y5 ?_ ?_; exact Z2) | (apply Y6; exact Z1; refine ⟨fun hh => ?_, fun hh => ?_⟩))
      all_goals simp only [resV_def (X := dX c) Tryz.func166, Tryz.results166, resultsV, resultV, go_sem, *, Nat.reduceLT, Int.reduceEq, Int.reduceBEq, Int.reduceLE, Int.reduceLT, Nat.reduceAdd, Nat.reduceBEq, Nat.reduceEqDiff, reduceIte, Nat.reduceLeDiff, Nat.reduceMul, Nat.reduceSub, reduceCtorEq, frzRes, dFrz, frzCells, isRet_ret, tupleOf]
      rw [HI.out]
    · have hb : decide (v = p) = false := by simpa using hvp
      have hb2 : (v == p) = false := by simpa using hvp
      have HN := Lib.hid hnx
      clear ha hp hnx hvp
      repeat' (first | refine Y1 ?_ | refine U7 ?_ | refine U8 ?_ | refine U9 ?_ | refine Y2 ?_ | ((first | refine Y3 ?_ | refine Y8 ?_); simp only [tN, bN, eN, true_and]) | (apply U4; exact Z1; exact rfl; simp only [pM, pN, rR, rP]) | (refine J3 rfl rfl ?_ ?_; exact Z2) | (refine J4 rfl rfl ?_ ?_; exact Z2; simp only [pM, pN, rR, rP]) | (apply U3; exact rfl; exact rfl; exact Z1; refine ⟨fun hh => ?_, fun hh => ?_⟩ <;> try simp only [Bool.not_true, Bool.not_false, pM, pN] at hh ⊢) | (apply U5; exact rfl; exact Z3; simp only [pM, pN, rR, rP]) | (simp only [tP, bP, eP, true_and]) | (refine Y7 ?_; simp only [tR, bR, eR, true_and]) | (refine Y9 ?_; simp only [tX, bS, bO, Nat.reduceBEq, tN, bN]) | (refine Y4 ?_ ?_; exact Z2) | (refine Y5 ?_ ?_; exact Z2) | (apply Y6; exact Z1; refine ⟨fun hh => ?_, fun hh => ?_⟩))
      refine ⟨hlt, _, rfl, ?_, ?_, ?_, ?_, ?_, by omega⟩
      · have := HA.out
        rw [HN.out]; simp_all
      all_goals exact Z2
  · have hd : decide ((k : Int) < (l.length : Int)) = false := by simpa using hlt
    have hkl : k = l.length := by omega
    have h2 := HA.out
    rw [hkl, List.take_length] at h2
    have HI := Lib.hid (idxOf_none h2)
    clear ha h2 hkl
    repeat' (first | refine Y1 ?_ | refine U7 ?_ | refine U8 ?_ | refine U9 ?_ | refine Y2 ?_ | ((first | refine Y3 ?_ | refine Y8 ?_); simp only [tN, bN, eN, true_and]) | (apply U4; exact Z1; exact rfl; simp only [pM, pN, rR, rP]) | (refine J3 rfl rfl ?_ ?_; exact Z2) | (refine J4 rfl rfl ?_ ?_; exact Z2; simp only [pM, pN, rR, rP]) | (apply U3; exact rfl; exact rfl; exact Z1; refine ⟨fun hh => ?_, fun hh => ?_⟩ <;> try simp only [Bool.not_true, Bool.not_false, pM, pN] at hh ⊢) | (apply U5; exact rfl; exact Z3; simp only [pM, pN, rR, rP]) | (simp only [tP, bP, eP, true_and]) | (refine Y7 ?_; simp only [tR, bR, eR, true_and]) | (refine Y9 ?_; simp only [tX, bS, bO, Nat.reduceBEq, tN, bN]) | (refine Y4 ?_ ?_; exact Z2) | (refine Y5 ?_ ?_; exact Z2) | (apply Y6; exact Z1; refine ⟨fun hh => ?_, fun hh => ?_⟩))
    all_goals simp only [resV_def (X := dX c) Tryz.func166, Tryz.results166, resultsV, resultV, go_sem, *, Nat.reduceLT, Int.reduceEq, Int.reduceBEq, Int.reduceLE, Int.reduceLT, Nat.reduceAdd, Nat.reduceBEq, Nat.reduceEqDiff, reduceIte, Nat.reduceLeDiff, Nat.reduceMul, Nat.reduceSub, reduceCtorEq, frzRes, dFrz, frzCells, isRet_ret, tupleOf]
    rw [HI.out]
noncomputable def cO : FuncId → Option (List AV → Heap → Option (AV × Heap)) := fun _ => none
theorem cO_sound : Sound (dX cO) := dX_sound (fun f g h => by cases h)
theorem F166 : IntrFn Tryz.prog 166 (flatFn sp166) := by
  refine flat_fn (X := dX cO) cO_sound p166 ?_
  intro args v h
  unfold sp166 at h
  split at h
  · simp only [Option.map_eq_some_iff] at h
    obtain ⟨l, hl, rfl⟩ := h
    exact C166 cO rfl _ l hl _ _
  · cases h
end Go.AM
set_option maxRecDepth 100000
namespace Go.AM
open Go Go.Proofs
variable [Keep]
attribute [local irreducible] W WO WO1 WD WQ WT thenQ blockQ endR isRet retK Cl ClR
end Go.AM
