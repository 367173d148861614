/-
  A part of the proof: contracts of functions.
-/
import Derived.Test.YtlhcjccaimmhgaaGreatDoorWAN
import Derived.Test.YtlhcjccaimmhgaaGreatDoorWAK
import Derived.Test.YtlhcjccaimmhgaaGreatDoorWAG
set_option linter.unusedSectionVars false
set_option linter.unusedVariables false
set_option linter.unusedSimpArgs false
set_option maxRecDepth 100000
namespace Go.AM
open Go Go.Proofs
variable [Keep]
attribute [local irreducible] W WO WO1 WD WQ WT thenQ blockQ endR isRet retK Cl ClR
def onR (ax : Ax) : Nat → List Sp → List Sp
 | 0, out => out.set 0 (interS (out.getD 0 ⟨0, 0⟩) ax.chuck)
 | n + 1, out => (onR ax n out).set (n + 1) (interS ((onR ax n out).getD (n + 1) ⟨0, 0⟩) (nxtS ax ((onR ax n out).getD n ⟨0, 0⟩)))
theorem onR_len (ax : Ax) (l : List Sp) : ∀ n, (onR ax n l).length = l.length := by
 intro n
 induction n with
 | zero => simp [onR]
 | succ n ih => simp [onR, ih]
def lookS (t : List Sp) : AV := if t.any empS then .tuple [.nilslice, .bool false] else .tuple [slN (t.map spC.enc), .bool true]
def axisV (ax : Ax) (l : List Sp) : AV := lookS (backS ax 12 (onR ax 12 l))
def isAxi (ax : Ax) (l : List Sp) (h : Heap) (r : COut) : Prop := ∃ h', HExt h h' ∧ r = .ret (axisV ax l) h' none
theorem isAxi_fail {ax : Ax} {l : List Sp} {h : Heap} : ¬ isAxi ax l h .fail := by rintro ⟨_, _, e⟩; cases e
theorem isAxi_no {ax : Ax} {l : List Sp} {h hp : Heap} (e : axisV ax l = .tuple [.nilslice, .bool false]) (hx : h.next ≤ hp.next ∧ ∀ id, id < h.next → hp.get id = h.get id) : isAxi ax l h (.ret (.tuple [.nilslice, .bool false]) hp none) := ⟨hp, hx, by rw [e]⟩
theorem isAxi_yes {ax : Ax} {l : List Sp} {h hp : Heap} {t : List Sp} (e : axisV ax l = .tuple [.vslice (t.map spC.enc), .bool true]) (hx : h.next ≤ hp.next ∧ ∀ id, id < h.next → hp.get id = h.get id) : isAxi ax l h (.ret (.tuple [.vslice (t.map spC.enc), .bool true]) hp none) := ⟨hp, hx, by rw [e]⟩
theorem row_idx {H : Heap} {id k : Nat} {cur : List Sp} (hk : k < 13) (hg : H.get id = some (.rw 2 (cur.map spC.enc))) : indexAddrV Tryz.prog H 146 (.row id 0 13) (.int .i64 ↑k) = some (.eptr id 2 k 0) := by
 have h1 : idxV (.int .i64 ↑k) 13 = some k := by
  simp only [idxV]
  rw [if_pos (by omega)]
  simp
 simp only [indexAddrV, Tryz.underlying146, ty_lay48, h1, hg, if_true, Nat.zero_add]
theorem row_idx0 {H : Heap} {id : Nat} {cur : List Sp} (hg : H.get id = some (.rw 2 (cur.map spC.enc))) : indexAddrV Tryz.prog H 146 (.row id 0 13) (.int .i64 0) = some (.eptr id 2 0 0) := row_idx (k := 0) (by omega) hg
theorem row_at {k : Nat} {cur : List Sp} {p : Sp} (hp : cur[k]? = some p) : (cur.map spC.enc)[k]? = some (.agg [.int .i64 p.lo, .int .i64 p.hi]) := by simp [hp, spC]
theorem getD_of {k : Nat} {cur : List Sp} {p : Sp} (hp : cur[k]? = some p) : cur.getD k ⟨0, 0⟩ = p := by simp [List.getD, hp]
attribute [local irreducible] isAxi
set_option maxHeartbeats 2000000 in
theorem C159 (c : Itr) (hc : c 159 = none) (hc2 : c 158 = some (pureFn sp158)) (ax : Ax) (l : List Sp) (ow : AV) (h : Heap) (hel : h.elems ow = some (l.map spC.enc)) (hout : outV (some ow) = some ow) (h13 : l.length = 13) :
  ClR (dX c) 159 [.agg [.int .i64 ax.chuck.lo, .int .i64 ax.chuck.hi], .agg [.int .i64 ax.wear.lo, .int .i64 ax.wear.hi], ow] h (isAxi ax l h) := by
 have hne : l.map spC.enc ≠ [] := by
  intro e
  have : l = [] := by simpa using e
  rw [this] at h13
  simp at h13
 have hsz : ∀ v ∈ l.map spC.enc, v.cells.length = 2 := by
  intro v hv
  obtain ⟨p, _, rfl⟩ := List.mem_map.1 hv
  rfl
 have hmost : ([] : List AV).length + (l.map spC.enc).length ≤ most := by simp only [List.length_nil, List.length_map, h13]; decide
 have H13 := Lib.hid h13
 clear h13
 refine ClR.walk (c := _) hc Tryz.func159 rfl (by kernel_rfl) rfl isAxi_fail ?_
 simp only [entryEnv, Nat.reduceAdd]
 repeat' (first | (apply WO1.appendN (t := 146) (u := 146) (e := 48) (e' := 48) (sz := 2) (tl := []) (b := h.next) (h0 := h) (l := []) (hb := BltN.nil) (hx := ⟨Nat.le_refl _, fun _ _ => rfl⟩); exact Z1; exact rfl; exact Z2; exact Z2; exact Z2; (focus (exact ty_row146)); exact Z1; (focus (exact hsz)); (focus (exact hmost)); (focus (exact hne)); (intro v' h' hB' ho' hX'; simp only [pM, pN])) | refine go1 ?_ | refine go2 (fun hh => ?_) (fun hh => ?_) | fail)
 rw [List.nil_append] at hB'
 obtain ⟨id, hu, hgr, hbid, hidn⟩ := hB'.row hne
 have hu13 : v' = .row id 0 13 := by rw [hu, List.length_map, H13.out]
 subst hu13
 obtain ⟨p0, hp0⟩ := get_some (show 0 < l.length by rw [H13.out]; omega)
 have hix := row_idx0 hgr
 have hrw := row_at hp0
 have hbig : hidn = hidn := rfl
 have HP0 := Lib.hid hp0
 clear hB' hu hne hsz hmost hel hp0 hbig
 repeat' (first | (apply W.drawQ (id := 2) (l1 := [0, 1, 2, 3, 4, 5, 6]) (l2 := [7]); kernel_rfl; kernel_rfl; kernel_rfl; exact Z4) | (apply W.drawQ (id := 6) (l1 := [0, 1, 2, 3, 4, 5, 6, 7, 8, 9, 10, 11, 12, 13, 14, 15, 16, 17, 18, 19, 20, 21, 22, 23, 24, 25, 26]) (l2 := [27]); kernel_rfl; kernel_rfl; kernel_rfl; exact Z4) | (apply W.drawQ (id := 10) (l1 := [0, 1, 2, 3, 4, 5, 6, 7, 8, 9, 10, 11, 12, 13, 14, 15, 16, 17, 18, 19, 20, 21, 22, 23, 24, 25, 26]) (l2 := [27]); kernel_rfl; kernel_rfl; kernel_rfl; exact Z4) | (apply W.drawQ (id := 14) (l1 := [0, 1, 2, 3, 4, 5, 6, 7, 8, 9, 10]) (l2 := []); kernel_rfl; kernel_rfl; kernel_rfl; exact Z4) | refine go1 ?_ | (apply U6; exact Z1; exact Z1; (focus (simp only [List.nil_append, List.append_nil]; first | exact K158 hc2 _ _ _ _ _)); simp only [pM, pN, rR, rP]) | refine go2 (fun hh => ?_) (fun hh => ?_) | fail)
 refine W.loopN 12 (fun k F => ∃ e lm hp, F = Fr.mk 159 false e lm hp [] none ∧ hp.get id = some (.rw 2 ((onR ax k l).map spC.enc)) ∧ (id < hp.next ∧ h.next ≤ hp.next ∧ ∀ id, id < h.next → hp.get id = h.get id) ∧
  lm.get 3 = some (0, [.int .i64 ax.chuck.lo, .int .i64 ax.chuck.hi]) ∧ lm.get 4 = some (0, [.int .i64 ax.wear.lo, .int .i64 ax.wear.hi]) ∧ e.get 3 = some (.lptr 3 0 0) ∧ e.get 4 = some (.lptr 4 0 0) ∧ e.get 8 = some (.row id 0 13) ∧ e.get 9 = some (.int .i64 ↑(k + 1)) ∧ k ≤ 12) ?_ ?_
 ·refine ⟨_, _, _, rfl, ?_, ?_, ?_, ?_, ?_, ?_, ?_, ?_, ?_⟩
  ·have hp0 := HP0.out
   simp only [onR, getD_of hp0]
   simp [Heap.get, Heap.put, List.map_set, spC, asElem, isAggV, interS]
  ·refine ⟨hidn, hX'.1, fun i hi => ?_⟩
   have hne : id ≠ i := by omega
   rw [← hX'.2 i hi]
   simp [Heap.get, Heap.put, hne]
  all_goals first | exact Z2 | simp [go_sem, *]
 clear hix hrw HP0 hgr hX' hidn ho' hout p0
 rintro k F ⟨e, lm, hp, rfl, hgid, hX, hl3, hl4, h3, h4, h8, h9, hk⟩
 have hlc : (onR ax k l).length = 13 := by rw [onR_len, H13.out]
 by_cases hlt : k < 12
 ·have hd : decide ((↑(k + 1) : Int) ≤ 12) = true := by simp; omega
  obtain ⟨pb, hpb⟩ := get_some (show k + 1 < (onR ax k l).length by omega)
  obtain ⟨pn, hpn⟩ := get_some (show k < (onR ax k l).length by omega)
  have hw1 : IntKind.i64.wrap (↑(k + 1) - 1) = ↑k := by rw [wrap_small (by omega) (by omega)]; omega
  have hw2 : IntKind.i64.wrap (↑(k + 1) + 1) = ↑(k + 1 + 1) := by rw [wrap_small (by omega) (by omega)]; omega
  have hrb := row_at hpb
  have hrn := row_at hpn
  have hixb := row_idx (show k + 1 < 13 by omega) hgid
  have hixn := row_idx (show k < 13 by omega) hgid
  have hon : onR ax (k + 1) l = (onR ax k l).set (k + 1) (interS pb (nxtS ax pn)) := by
   simp only [onR, getD_of hpb, getD_of hpn]
  have HON := Lib.hid hon
  clear hon hpb hpn hlc
  generalize onR ax k l = cur at hgid hrb hrn HON
  generalize hn : k + 1 = n at *
  repeat' (first | (apply W.drawQ (id := 2) (l1 := [0, 1, 2, 3, 4, 5, 6]) (l2 := [7]); kernel_rfl; kernel_rfl; kernel_rfl; exact Z4) | (apply W.drawQ (id := 6) (l1 := [0, 1, 2, 3, 4, 5, 6, 7, 8, 9, 10, 11, 12, 13, 14, 15, 16, 17, 18, 19, 20, 21, 22, 23, 24, 25, 26]) (l2 := [27]); kernel_rfl; kernel_rfl; kernel_rfl; exact Z4) | (apply W.drawQ (id := 10) (l1 := [0, 1, 2, 3, 4, 5, 6, 7, 8, 9, 10, 11, 12, 13, 14, 15, 16, 17, 18, 19, 20, 21, 22, 23, 24, 25, 26]) (l2 := [27]); kernel_rfl; kernel_rfl; kernel_rfl; exact Z4) | (apply W.drawQ (id := 14) (l1 := [0, 1, 2, 3, 4, 5, 6, 7, 8, 9, 10]) (l2 := []); kernel_rfl; kernel_rfl; kernel_rfl; exact Z4) | refine go1 ?_ | (apply U6; exact Z1; exact Z1; (focus (simp only [List.nil_append, List.append_nil]; first | exact K158 hc2 _ _ _ _ _)); simp only [pM, pN, rR, rP]) | refine go2 (fun hh => ?_) (fun hh => ?_) | fail)
  subst hn
  refine ⟨hlt, _, _, _, rfl, ?_, ?_, ?_, ?_, ?_, ?_, ?_, ?_, by omega⟩
  ·rw [HON.out]
   simp [Heap.get, Heap.put, List.map_set, spC, asElem, isAggV, interS, nxtS, w64]
  ·refine ⟨hX.1, hX.2.1, fun i hi => ?_⟩
   have hne : id ≠ i := by omega
   rw [← hX.2.2 i hi]
   simp [Heap.get, Heap.put, hne]
  all_goals exact Z2
 ·have hd : decide ((↑(k + 1) : Int) ≤ 12) = false := by simp; omega
  have hk12 : k = 12 := by omega
  subst hk12
  have HM := Lib.hid (show backS ax 12 (onR ax 12 l) = backS ax 12 (onR ax 12 l) from rfl)
  generalize hmid : onR ax 12 l = mid at *
  have hmv : axisV ax l = lookS (backS ax 12 mid) := by unfold axisV; rw [hmid]
  have HV := Lib.hid hmv
  have HGR := Lib.hid hgid
  have HLC := Lib.hid hlc
  clear hmid hmv hgid hlc hlt HM
  repeat' (first | refine goS ?_ | refine go2 (fun hh => ?_) (fun hh => ?_) | fail)
  refine W.loopN 12 (fun j F => ∃ e lm hp cur, F = Fr.mk 159 false e lm hp [] none ∧ backS ax (12 - j) cur = backS ax 12 mid ∧ cur.length = 13 ∧ hp.get id = some (.rw 2 (cur.map spC.enc)) ∧ (id < hp.next ∧ h.next ≤ hp.next ∧ ∀ id, id < h.next → hp.get id = h.get id) ∧
   lm.get 4 = some (0, [.int .i64 ax.wear.lo, .int .i64 ax.wear.hi]) ∧ e.get 4 = some (.lptr 4 0 0) ∧ e.get 8 = some (.row id 0 13) ∧ e.get 10 = some (.int .i64 ↑(12 - j)) ∧ j ≤ 12) ?_ ?_
  ·refine ⟨_, _, _, mid, rfl, rfl, HLC.out, HGR.out, hX, ?_, ?_, ?_, ?_, ?_⟩ <;> first | exact Z2 | simp [go_sem, *]
  clear hd h9 hl3 h3 hk
  rintro j F ⟨e, lm, hp, cur, rfl, hbw, hcl13, hgid, hX, hl4, h4, h8, h10, hj⟩
  have HBW := Lib.hid hbw
  have HC := Lib.hid hcl13
  clear hbw
  by_cases hjt : j < 12
  ·have hdj : decide ((↑(12 - j) : Int) > 0) = true := by simp; omega
   obtain ⟨pb, hpb⟩ := get_some (show 11 - j < cur.length by omega)
   obtain ⟨pn, hpn⟩ := get_some (show 12 - j < cur.length by omega)
   have hw1 : IntKind.i64.wrap (↑(12 - j) - 1) = ↑(11 - j) := by rw [wrap_small (by omega) (by omega)]; omega
   have hrb := row_at hpb
   have hrn := row_at hpn
   have hixb := row_idx (show 11 - j < 13 by omega) hgid
   have hixn := row_idx (show 12 - j < 13 by omega) hgid
   have hstep : backS ax (12 - j) cur = backS ax (11 - j) (cur.set (11 - j) (interS pb (prvS ax pn))) := by
    rw [show 12 - j = (11 - j) + 1 from by omega]
    show backS ax (11 - j) _ = _
    rw [getD_of hpb, show 11 - j + 1 = 12 - j from by omega, getD_of hpn]
   have HST := Lib.hid hstep
   clear hstep hpb hpn hcl13
   generalize hn : 12 - j = n at *
   generalize hn1 : 11 - j = n1 at *
   repeat' (first | (apply W.drawQ (id := 2) (l1 := [0, 1, 2, 3, 4, 5, 6]) (l2 := [7]); kernel_rfl; kernel_rfl; kernel_rfl; exact Z4) | (apply W.drawQ (id := 6) (l1 := [0, 1, 2, 3, 4, 5, 6, 7, 8, 9, 10, 11, 12, 13, 14, 15, 16, 17, 18, 19, 20, 21, 22, 23, 24, 25, 26]) (l2 := [27]); kernel_rfl; kernel_rfl; kernel_rfl; exact Z4) | (apply W.drawQ (id := 10) (l1 := [0, 1, 2, 3, 4, 5, 6, 7, 8, 9, 10, 11, 12, 13, 14, 15, 16, 17, 18, 19, 20, 21, 22, 23, 24, 25, 26]) (l2 := [27]); kernel_rfl; kernel_rfl; kernel_rfl; exact Z4) | (apply W.drawQ (id := 14) (l1 := [0, 1, 2, 3, 4, 5, 6, 7, 8, 9, 10]) (l2 := []); kernel_rfl; kernel_rfl; kernel_rfl; exact Z4) | refine go1 ?_ | (apply U6; exact Z1; exact Z1; (focus (simp only [List.nil_append, List.append_nil]; first | exact K158 hc2 _ _ _ _ _)); simp only [pM, pN, rR, rP]) | refine go2 (fun hh => ?_) (fun hh => ?_) | fail)
   refine ⟨hjt, _, _, _, cur.set n1 (interS pb (prvS ax pn)), rfl, ?_, ?_, ?_, ?_, ?_, ?_, ?_, ?_, by omega⟩
   ·rw [show 12 - (j + 1) = n1 from by omega, ← HBW.out, HST.out]
   ·rw [List.length_set]; exact HC.out
   ·simp [Heap.get, Heap.put, List.map_set, spC, asElem, isAggV, interS, prvS, w64]
   ·refine ⟨hX.1, hX.2.1, fun i hi => ?_⟩
    have hne : id ≠ i := by omega
    rw [← hX.2.2 i hi]
    simp [Heap.get, Heap.put, hne]
   ·simp only [go_sem, *, Nat.reduceLT, Int.reduceEq, Int.reduceBEq, Int.reduceLE, Int.reduceLT, Nat.reduceAdd, Nat.reduceBEq, Nat.reduceEqDiff, reduceIte, Nat.reduceLeDiff, Nat.reduceMul, Nat.reduceSub, reduceCtorEq]; done
   ·simp only [go_sem, *, Nat.reduceLT, Int.reduceEq, Int.reduceBEq, Int.reduceLE, Int.reduceLT, Nat.reduceAdd, Nat.reduceBEq, Nat.reduceEqDiff, reduceIte, Nat.reduceLeDiff, Nat.reduceMul, Nat.reduceSub, reduceCtorEq]; done
   ·simp only [go_sem, *, Nat.reduceLT, Int.reduceEq, Int.reduceBEq, Int.reduceLE, Int.reduceLT, Nat.reduceAdd, Nat.reduceBEq, Nat.reduceEqDiff, reduceIte, Nat.reduceLeDiff, Nat.reduceMul, Nat.reduceSub, reduceCtorEq]; done
   ·rw [show 12 - (j + 1) = n1 from by omega]
    simp only [go_sem, *, Nat.reduceLT, Int.reduceEq, Int.reduceBEq, Int.reduceLE, Int.reduceLT, Nat.reduceAdd, Nat.reduceBEq, Nat.reduceEqDiff, reduceIte, Nat.reduceLeDiff, Nat.reduceMul, Nat.reduceSub, reduceCtorEq]
  ·have hdj : decide ((↑(12 - j) : Int) > 0) = false := by simp; omega
   have hj12 : j = 12 := by omega
   have hbc : cur = backS ax 12 mid := by rw [← HBW.out, hj12]; rfl
   have hmv : axisV ax l = lookS cur := by rw [HV.out, hbc]
   have HV2 := Lib.hid hmv
   clear hbc hj12 hcl13 hmv
   repeat' (first | refine goS ?_ | refine go2 (fun hh => ?_) (fun hh => ?_) | fail)
   refine W.loopN 13 (fun k F => ∃ e lm, F = Fr.mk 159 false e lm hp [] none ∧ (cur.take k).any empS = false ∧ e.get 8 = some (.row id 0 13) ∧ e.get 11 = some (.int .i64 ↑k) ∧ k ≤ 13) ?_ ?_
   ·refine ⟨_, _, rfl, ?_, ?_, ?_, ?_⟩ <;> first | exact Z2 | simp [go_sem, *]
   clear h10 hl4 h4 h8 hdj
   rintro k F ⟨e, lm, rfl, hany, h8, h11, hk⟩
   have HA := Lib.hid hany
   clear hany
   by_cases hkt : k < 13
   ·have hdk : decide ((k : Int) ≤ 12) = true := by simp; omega
    obtain ⟨pk, hpk⟩ := get_some (show k < cur.length by rw [HC.out]; omega)
    have hrk := row_at hpk
    have hixk := row_idx hkt hgid
    have hwk := wrap_succ hkt (by unfold maxL; omega)
    have hnx := take_next hpk
    have HNX := Lib.hid hnx
    have hno : empS pk = true → axisV ax l = .tuple [.nilslice, .bool false] := fun he => by
     have : cur.any empS = true := List.any_eq_true.2 ⟨pk, List.mem_of_getElem? hpk, he⟩
     rw [HV2.out, lookS, this]
     rfl
    have HNO := Lib.hid hno
    clear hnx hno hpk
    by_cases hem : pk.lo > pk.hi
    ·have hde : decide (pk.lo > pk.hi) = true := by simpa using hem
     have hv := HNO.out (by simpa [empS] using hem)
     have HVV := Lib.hid hv
     clear hv hem
     repeat' (first | (apply W.drawQ (id := 2) (l1 := [0, 1, 2, 3, 4, 5, 6]) (l2 := [7]); kernel_rfl; kernel_rfl; kernel_rfl; exact Z4) | (apply W.drawQ (id := 6) (l1 := [0, 1, 2, 3, 4, 5, 6, 7, 8, 9, 10, 11, 12, 13, 14, 15, 16, 17, 18, 19, 20, 21, 22, 23, 24, 25, 26]) (l2 := [27]); kernel_rfl; kernel_rfl; kernel_rfl; exact Z4) | (apply W.drawQ (id := 10) (l1 := [0, 1, 2, 3, 4, 5, 6, 7, 8, 9, 10, 11, 12, 13, 14, 15, 16, 17, 18, 19, 20, 21, 22, 23, 24, 25, 26]) (l2 := [27]); kernel_rfl; kernel_rfl; kernel_rfl; exact Z4) | (apply W.drawQ (id := 14) (l1 := [0, 1, 2, 3, 4, 5, 6, 7, 8, 9, 10]) (l2 := []); kernel_rfl; kernel_rfl; kernel_rfl; exact Z4) | refine go1 ?_ | refine go2 (fun hh => ?_) (fun hh => ?_) | fail)
     all_goals (simp only [resV_def (X := dX c) Tryz.func159, Tryz.results159]; first | exact J5 | refine J6 ?_)
     exact isAxi_no HVV.out hX.2
    ·have hde : decide (pk.lo > pk.hi) = false := by simpa using hem
     have hee : empS pk = false := by simpa [empS] using hem
     have HE := Lib.hid hee
     clear hem hee
     repeat' (first | (apply W.drawQ (id := 2) (l1 := [0, 1, 2, 3, 4, 5, 6]) (l2 := [7]); kernel_rfl; kernel_rfl; kernel_rfl; exact Z4) | (apply W.drawQ (id := 6) (l1 := [0, 1, 2, 3, 4, 5, 6, 7, 8, 9, 10, 11, 12, 13, 14, 15, 16, 17, 18, 19, 20, 21, 22, 23, 24, 25, 26]) (l2 := [27]); kernel_rfl; kernel_rfl; kernel_rfl; exact Z4) | (apply W.drawQ (id := 10) (l1 := [0, 1, 2, 3, 4, 5, 6, 7, 8, 9, 10, 11, 12, 13, 14, 15, 16, 17, 18, 19, 20, 21, 22, 23, 24, 25, 26]) (l2 := [27]); kernel_rfl; kernel_rfl; kernel_rfl; exact Z4) | (apply W.drawQ (id := 14) (l1 := [0, 1, 2, 3, 4, 5, 6, 7, 8, 9, 10]) (l2 := []); kernel_rfl; kernel_rfl; kernel_rfl; exact Z4) | refine go1 ?_ | refine go2 (fun hh => ?_) (fun hh => ?_) | fail)
     refine ⟨hkt, _, _, rfl, ?_, ?_, ?_, by omega⟩
     ·have h1 := HA.out
      have h2 := HE.out
      rw [HNX.out]
      simp [h1, h2]
     all_goals exact Z2
   ·have hdk : decide ((k : Int) ≤ 12) = false := by simp; omega
    have hk13 : k = 13 := by omega
    have hany := HA.out
    rw [hk13, List.take_of_length_le (by rw [HC.out]; omega)] at hany
    have hsl : slN (cur.map spC.enc) = .vslice (cur.map spC.enc) := by
     have h13 := HC.out
     cases cur with
     | nil => simp at h13
     | cons x r => rfl
    have hv : axisV ax l = .tuple [.vslice (cur.map spC.enc), .bool true] := by
     rw [HV2.out, lookS, hany, hsl]
     rfl
    have HVV := Lib.hid hv
    have hz : frz1 hp (.row id 0 13) = some (.vslice (cur.map spC.enc), hp.del id) := by
     simp only [frz1, hgid, List.length_map, HC.out, Nat.zero_add, Nat.le_refl, if_true, List.drop_zero]
     rw [List.take_of_length_le (by simp [HC.out])]
    have hz2 : frz2 hp (.row id 0 13) = some (.vslice (cur.map spC.enc), hp.del id) := hz
    clear hv hany hsl hk13
    repeat' (first | (apply W.drawQ (id := 2) (l1 := [0, 1, 2, 3, 4, 5, 6]) (l2 := [7]); kernel_rfl; kernel_rfl; kernel_rfl; exact Z4) | (apply W.drawQ (id := 6) (l1 := [0, 1, 2, 3, 4, 5, 6, 7, 8, 9, 10, 11, 12, 13, 14, 15, 16, 17, 18, 19, 20, 21, 22, 23, 24, 25, 26]) (l2 := [27]); kernel_rfl; kernel_rfl; kernel_rfl; exact Z4) | (apply W.drawQ (id := 10) (l1 := [0, 1, 2, 3, 4, 5, 6, 7, 8, 9, 10, 11, 12, 13, 14, 15, 16, 17, 18, 19, 20, 21, 22, 23, 24, 25, 26]) (l2 := [27]); kernel_rfl; kernel_rfl; kernel_rfl; exact Z4) | (apply W.drawQ (id := 14) (l1 := [0, 1, 2, 3, 4, 5, 6, 7, 8, 9, 10]) (l2 := []); kernel_rfl; kernel_rfl; kernel_rfl; exact Z4) | refine go1 ?_ | refine go2 (fun hh => ?_) (fun hh => ?_) | fail)
    all_goals try (simp only [resV_def (X := dX c) Tryz.func159, Tryz.results159]; first | exact J5 | refine J6 ?_)
    refine isAxi_yes HVV.out ⟨hX.2.1, fun i hi => ?_⟩
    have hne : id ≠ i := by omega
    rw [← hX.2.2 i hi]
    simp [Heap.get, Heap.del, hne]
end Go.AM
namespace Go.AM
open Go Go.Proofs
variable [Keep]
attribute [local irreducible] W WO WO1 WD WQ WT thenQ blockQ endR isRet retK Cl ClR
def marksOf (rs : List Rdg) : List Held := rs.map fun r => ⟨r.b, ⟨w64 (r.x - r.err), w64 (r.x + r.err)⟩, ⟨w64 (r.y - r.err), w64 (r.y + r.err)⟩⟩
def sp106 : List AV → Option AV
 | [.agg [sa, .int .i64 cxl, .int .i64 cxh, .int .i64 cyl, .int .i64 cyh, .int .i64 wxl, .int .i64 wxh, .int .i64 wyl, .int .i64 wyh, ra]] => match slV ptC sa, slV rdgC ra with
  | some _, some rs => some (slN ((marksOf rs).map heldC.enc))
  | _, _ => none
 | _ => none
theorem p106 : ∀ args v, sp106 args = some v → v.pur = true := by
 intro args v h
 unfold sp106 at h
 split at h
 ·split at h
  ·cases h; exact slN_pur (enc_pur heldC _)
  ·cases h
 ·cases h
noncomputable def cV : Itr
 | 158 => some (pureFn sp158)
 | _ => none
theorem cV_sound : Sound (dX cV) := dX_sound (fun f g h => by
 unfold cV at h
 split at h
 ·cases h; exact F158
 ·cases h)
set_option maxHeartbeats 1000000 in
theorem F106 : IntrFn Tryz.prog 106 (pureFn sp106) := by
 refine pure_fn (X := dX cV) cV_sound p106 ?_
 intro args v h
 unfold sp106 at h
 split at h
 ·rename_i sa cxl cxh cyl cyh wxl wxh wyl wyh ra
  split at h
  ·rename_i st rs hl hr
   cases h
   have hlen := sl_len hr
   have hout := sl_out hr
   have hmax := sl_max hr
   have hout2 := sl_out hl
   clear hl
   refine ClR.walk (c := _) rfl Tryz.func106 rfl (by kernel_rfl) rfl isRet_fail ?_
   simp only [entryEnv, Nat.reduceAdd]
   repeat' (first | refine goS ?_ | refine go2 (fun hh => ?_) (fun hh => ?_) | fail)
   refine W.loopN rs.length (fun k F => ∃ e lm hp u, F = Fr.mk 106 false e lm hp [] none ∧ Blt hp u 5 ((marksOf (rs.take k)).map heldC.enc) ∧ lm.get 1 = some (0, [sa, .int .i64 cxl, .int .i64 cxh, .int .i64 cyl, .int .i64 cyh, .int .i64 wxl, .int .i64 wxh, .int .i64 wyl, .int .i64 wyh, ra]) ∧ e.get 1 = some (.lptr 1 0 0) ∧ e.get 3 = some u ∧ e.get 4 = some (.int .i64 ↑k) ∧ k ≤ rs.length) ?_ ?_
   ·refine ⟨_, _, _, _, rfl, Blt.nil, ?_, ?_, ?_, ?_, ?_⟩ <;> first | exact Z2 | simp [go_sem, *]
   rintro k F ⟨e, lm, hp, u, rfl, hB, hl1, h1, h3, h4, hk⟩
   have hbo := hB.out
   by_cases hlt : k < rs.length
   ·obtain ⟨p, hp'⟩ := get_some hlt
    have hix := rdg_idx hr hp'
    have hd : decide ((k : Int) < (rs.length : Int)) = true := by simpa using hlt
    have hw := wrap_succ hlt hmax
    have hnx : marksOf (rs.take (k + 1)) = marksOf (rs.take k) ++ [⟨p.b, ⟨w64 (p.x - p.err), w64 (p.x + p.err)⟩, ⟨w64 (p.y - p.err), w64 (p.y + p.err)⟩⟩] := by rw [take_next hp']; simp [marksOf]
    have hll : ((marksOf (rs.take k)).map heldC.enc).length + 1 ≤ most := by
     simp only [marksOf, List.length_map, List.length_take]; unfold most; unfold maxL at hmax; omega
    have HX := Lib.hid hnx
    clear hr hp' hnx
    repeat' (first | (apply WO1.append (t := 156) (u := 156) (e := 181) (e' := 181) (sz := 5) (tl := []); (focus assumption); exact Z1; exact rfl; exact Z2; exact Z2; exact Z2; (focus (exact ty_row156)); exact Z1; (focus (intro v hv; simp at hv; rcases hv with rfl | rfl <;> rfl)); (focus (simp only [List.length_cons, List.length_nil]; exact hll)); (focus (simp)); (intro v' h' hB' ho' hK'; simp only [pM, pN])) | refine go1 ?_ | refine go2 (fun hh => ?_) (fun hh => ?_) | fail)
    refine ⟨hlt, _, _, _, v', rfl, ?_, ?_, ?_, ?_, ?_, by omega⟩
    ·rw [HX.out]; simpa [heldC, w64] using hB'
    all_goals exact Z2
   ·have hd : decide ((k : Int) < (rs.length : Int)) = false := by simpa using hlt
    have hkl : k = rs.length := by omega
    rw [hkl, List.take_length] at hB
    obtain ⟨h', hz, hz2, hz1⟩ := hB.freeze
    clear hkl hr
    repeat' (first | refine goS ?_ | refine go2 (fun hh => ?_) (fun hh => ?_) | fail)
    all_goals (simp only [resV_def (X := dX cV) Tryz.func106, Tryz.results106]; first | exact J5 | refine J6 ?_)
  ·cases h
 ·cases h
theorem K106 {X : Ctx} (hX : X.intr 106 = some (pureFn sp106)) (sa ra : AV) (st : List Pt) (rs : List Rdg) (cx cy wx wy : Sp) (hl : slV ptC sa = some st) (hr : slV rdgC ra = some rs) (h : Heap) :
  Cl X 106 [.agg [sa, .int .i64 cx.lo, .int .i64 cx.hi, .int .i64 cy.lo, .int .i64 cy.hi, .int .i64 wx.lo, .int .i64 wx.hi, .int .i64 wy.lo, .int .i64 wy.hi, ra]] h (.ret (slN ((marksOf rs).map heldC.enc)) h none) :=
 Cl.intr hX (by simp [pureFn, AV.pur, AV.purL, sl_pur hl, sl_pur hr, sp106, hl, hr])
def h159 (args : List AV) (h : Heap) : Option AV :=
 match args with
 | [.agg [.int .i64 cl, .int .i64 ch], .agg [.int .i64 wl, .int .i64 wh], .row id off len] => (match h.get id with
  | some (.rw sz el) => if (Nat.beq sz 2 && Nat.ble (off + len) el.length && AV.purL el) = true then (match decL spC ((el.drop off).take len) with
   | some l => if l.length = 13 then some (axisV ⟨⟨cl, ch⟩, ⟨wl, wh⟩, []⟩ l) else none
   | none => none) else none
  | _ => none)
 | _ => none
theorem lookS_pur (t : List Sp) : (lookS t).pur = true := by
 unfold lookS
 split
 ·rfl
 ·have := slN_pur (enc_pur spC t)
  simp [AV.pur, AV.purL, this]
theorem axisV_pur (ax : Ax) (l : List Sp) : (axisV ax l).pur = true := lookS_pur _
attribute [local irreducible] axisV
theorem hp159 : ∀ args h v, h159 args h = some v → v.pur = true := by
 intro args h v e
 unfold h159 at e
 split at e
 ·split at e
  ·split at e
   ·split at e
    ·split at e
     ·have e := Option.some.inj e
      rw [← e]
      exact axisV_pur _ _
     ·cases e
    ·cases e
   ·cases e
  ·cases e
 ·cases e
theorem H159 : IntrFn Tryz.prog 159 (onHeap h159) := by
 refine row_intr (X := dX cV) cV_sound hp159 ?_
 intro args h v hfr e
 unfold h159 at e
 split at e
 ·rename_i cl ch wl wh id off len
  split at e
  ·rename_i sz el hg
   split at e
   ·rename_i hc
    simp only [Bool.and_eq_true, Nat.ble_eq] at hc
    obtain ⟨⟨hz, hle⟩, hpu⟩ := hc
    have hz := Nat.eq_of_beq_eq_true hz
    subst hz
    split at e
    ·rename_i l hdl
     split at e
     ·rename_i h13
      have e := Option.some.inj e
      subst e
      have hid := hfr id _ hg
      have hget : ∀ id' b, ((Mp.nil : Mp Blk).set id (.rw 2 el)).get id' = some b → id' = id ∧ b = .rw 2 el := by
       intro id' b e
       by_cases hh : (id == id') = true
       ·have := beq_iff_eq.1 hh
        subst this
        rw [get_set_same] at e
        exact ⟨rfl, (Option.some.inj e).symm⟩
       ·rw [get_set_lit _ _ _ _ (by simpa using hh)] at e
        simp at e
      refine ⟨(Mp.nil : Mp Blk).set id (.rw 2 el), fun id' b e => ?_, ?_⟩
      ·obtain ⟨rfl, rfl⟩ := hget id' b e
       exact ⟨hg, 2, el, rfl, purL_mem.1 hpu⟩
      ·have hgm : (Heap.mk h.next ((Mp.nil : Mp Blk).set id (.rw 2 el))).get id = some (.rw 2 el) := get_set_same _ _ _
       have hel : (Heap.mk h.next ((Mp.nil : Mp Blk).set id (.rw 2 el))).elems (.row id off len) = some (l.map spC.enc) := by
        simp only [Heap.elems, hgm]
        rw [if_pos hle, decL_eq spC _ _ hdl]
       have q := C159 cV rfl rfl ⟨⟨cl, ch⟩, ⟨wl, wh⟩, []⟩ l (.row id off len) ⟨h.next, (Mp.nil : Mp Blk).set id (.rw 2 el)⟩ hel rfl h13
       unfold ClR Cl at q
       obtain ⟨r, ⟨k, q1⟩, h', q2, rfl⟩ := q
       exact ⟨_, k, q1 k (Nat.le_refl _), fun id' b e => by
        obtain ⟨rfl, rfl⟩ := hget id' b e
        exact (q2.2 _ hid).trans e⟩
     ·cases e
    ·cases e
   ·cases e
  ·cases e
 ·cases e
theorem K159 {X : Ctx} (hX : X.intr 159 = some (onHeap h159)) (c w : Sp) (l : List Sp) (id : Nat) (h : Heap) (hg : h.get id = some (.rw 2 (l.map spC.enc))) (h13 : l.length = 13) :
  Cl X 159 [.agg [.int .i64 c.lo, .int .i64 c.hi], .agg [.int .i64 w.lo, .int .i64 w.hi], .row id 0 13] h (.ret (axisV ⟨c, w, []⟩ l) h none) :=
 Cl.intr hX (by
  have h1 : Nat.ble (0 + 13) (l.map spC.enc).length = true := by rw [Nat.ble_eq]; simp [h13]
  have h2 : AV.purL (l.map spC.enc) = true := purL_mem.2 (enc_pur spC l)
  have h3 : ((l.map spC.enc).drop 0).take 13 = l.map spC.enc := by rw [List.drop_zero, List.take_of_length_le (by simp [h13])]
  have h0 : Nat.beq 2 2 = true := rfl
  simp only [onHeap, h159, hg, h0, h1, h2, h3, decL_map, Bool.and_self, if_true, h13])
end Go.AM
namespace Go.AM
open Go Go.Proofs
variable [Keep]
attribute [local irreducible] W WO WO1 WD WQ WT thenQ blockQ endR isRet retK Cl ClR
def Sep (a b : AV) : Prop := ∀ id o n o' n', a = .row id o n → b = .row id o' n' → False
theorem Blt.apart {h h' : Heap} {a b : AV} {sz : Nat} {l : List AV} (q : Blt h b sz l) (k : Keeps h h' a) (s : Sep a b) : Blt h' b sz l := by
 rcases q with q | ⟨id, h1, h2, h3, h4⟩
 ·exact .inl q
 ·refine .inr ⟨id, h1, ?_, Nat.lt_of_lt_of_le h3 k.1, h4⟩
  rw [k.2 id h3 (fun off n e => s id off n 0 l.length e h1)]
  exact h2
section
variable {X : Ctx} {ops : Array Oper} {K P : AV → Fr → Prop} {F : Fr} {d : Option Tmp} {T : TypeId} {p : String} {af : Array Edge}
theorem WO1.appendE {args : Array Operand} {at_ : Array TypeId} {t u e e' : TypeId} {tl : List TypeId} {sz : Nat} {x y : AV} {new l : List AV} (hb : Blt F.hp x sz l) (hargs : F.opvs args.toList = some [x, y]) (ht : at_.toList = t :: u :: tl) (hu : X.P.underlying u = some (.slice e'))
  (hel : elemT X.P t = some e) (hs : szT X.P e = sz) (hrow : rowable X.P e = true) (hy : F.hp.elems y = some new) (hsz : ∀ v ∈ new, v.cells.length = sz) (hlen : l.length + new.length ≤ most) (hne : new ≠ [])
  (h : ∀ v' h', Blt h' v' sz (l ++ new) → outV (some v') = some v' → Keeps F.hp h' x → v' = .row F.hp.next 0 (l ++ new).length → K v' (({ F with hp := h' } : Fr).put d v')) : WO1 X ops ⟨d, .call ⟨.builtin .append, args, at_⟩, T, p, af, none⟩ F K P := by
 subst hs
 obtain ⟨v', h', q1, q2, q3, q4⟩ := append_blt hel hrow hsz hb hlen hne
 refine U5 (v := v') (F' := { F with hp := h' }) rfl (fun cl rd => ?_) (h v' h' q2 q2.out q3 q4)
 simp only [efV, Fr.callOp, Fr.builtinE, Fr.appendE, ht, hargs, hu]
 cases y <;> first | (simp only [hy, q1, okO]; done) | simp [Heap.elems] at hy
end
theorem Blt.id_lt {h : Heap} {b : AV} {sz id o n : Nat} {l : List AV} (q : Blt h b sz l) (e : b = .row id o n) : id < h.next := by
 rcases q with ⟨h1, _⟩ | ⟨i, h1, h2, h3, h4⟩
 ·rw [h1] at e; cases e
 ·rw [h1] at e; cases e; exact h3
theorem Sep.symm {a b : AV} (s : Sep a b) : Sep b a := fun id o n o' n' e1 e2 => s id o' n' o n e2 e1
theorem Sep.new {h : Heap} {b : AV} {sz k : Nat} {l : List AV} (q : Blt h b sz l) (hk : h.next ≤ k) (n : Nat) : Sep (.row k 0 n) b := by
 intro id o m o' m' e1 e2
 cases e1
 have := q.id_lt e2
 omega
theorem Sep.nil (b : AV) : Sep .nilslice b := fun id o n o' n' e _ => by cases e
def ownS (sel : Held → Sp) : List Held → List Sp → List Sp
 | [], o => o
 | m :: r, o => ownS sel r (o.set m.b.toNat (interS (o.getD m.b.toNat ⟨0, 0⟩) (sel m)))
theorem ownS_len (sel : Held → Sp) : ∀ (ms : List Held) (o : List Sp), (ownS sel ms o).length = o.length := by
 intro ms
 induction ms with
 | nil => intro o; rfl
 | cons m r ih => intro o; simp [ownS, ih]
def wideS : Sp := ⟨-1000, 1000⟩
def initS : List Sp := List.replicate 13 wideS
def blkB (m : Held) : Bool := inB m.b 0 12
def mergeV (a b : AV) : AV := match a, b with
 | .tuple [x, .bool p], .tuple [y, .bool q] => .tuple [x, y, .bool (p && q)]
 | _, _ => .junk
def bothV (cx cy wx wy : Sp) (ms : List Held) : AV := mergeV (axisV ⟨cx, wx, []⟩ (ownS (·.x) ms initS)) (axisV ⟨cy, wy, []⟩ (ownS (·.y) ms initS))
theorem lookS_is (t : List Sp) : ∃ x p, lookS t = .tuple [x, .bool p] ∧ x.pur = true ∧ outV (some x) = some x ∧ (∀ hp : Heap, frz2 hp x = some (x, hp)) ∧ isTuple x = false := by
 unfold lookS
 split
 ·exact ⟨_, _, rfl, rfl, rfl, fun _ => rfl, rfl⟩
 ·exact ⟨_, _, rfl, slN_pur (enc_pur spC t), (slN_is _).out, (slN_is _).frz2, (slN_is _).tup⟩
def sp105 : List AV → Option AV
 | [.agg [sa, .int .i64 cxl, .int .i64 cxh, .int .i64 cyl, .int .i64 cyh, .int .i64 wxl, .int .i64 wxh, .int .i64 wyl, .int .i64 wyh, ra], ma] => match slV ptC sa, slV rdgC ra, slV heldC ma with
  | some _, some _, some ms => if ms.all blkB = true then some (bothV ⟨cxl, cxh⟩ ⟨cyl, cyh⟩ ⟨wxl, wxh⟩ ⟨wyl, wyh⟩ ms) else none
  | _, _, _ => none
 | _ => none
theorem bothV_is (cx cy wx wy : Sp) (ms : List Held) : ∃ x p y q, axisV ⟨cx, wx, []⟩ (ownS (·.x) ms initS) = .tuple [x, .bool p] ∧ axisV ⟨cy, wy, []⟩ (ownS (·.y) ms initS) = .tuple [y, .bool q] ∧ bothV cx cy wx wy ms = .tuple [x, y, .bool (p && q)] ∧
  x.pur = true ∧ y.pur = true ∧ outV (some x) = some x ∧ outV (some y) = some y ∧ (∀ hp : Heap, frz2 hp x = some (x, hp)) ∧ (∀ hp : Heap, frz2 hp y = some (y, hp)) ∧ isTuple x = false ∧ isTuple y = false := by
 obtain ⟨x, p, e1, e2, e3, e4, e5⟩ := lookS_is (backS ⟨cx, wx, []⟩ 12 (onR ⟨cx, wx, []⟩ 12 (ownS (·.x) ms initS)))
 obtain ⟨y, q, f1, f2, f3, f4, f5⟩ := lookS_is (backS ⟨cy, wy, []⟩ 12 (onR ⟨cy, wy, []⟩ 12 (ownS (·.y) ms initS)))
 refine ⟨x, p, y, q, e1, f1, ?_, e2, f2, e3, f3, e4, f4, e5, f5⟩
 unfold bothV axisV
 rw [e1, f1]
 rfl
attribute [local irreducible] axisV bothV
theorem p105 : ∀ args v, sp105 args = some v → v.pur = true := by
 intro args v h
 unfold sp105 at h
 split at h
 ·split at h
  ·split at h
   ·rename_i ms _ _
    have h := Option.some.inj h
    obtain ⟨x, p, y, q, _, _, e, h1, h2, _⟩ := bothV_is ⟨_, _⟩ ⟨_, _⟩ ⟨_, _⟩ ⟨_, _⟩ _
    rw [← h, e]
    simp [AV.pur, AV.purL, h1, h2]
   ·cases h
  ·cases h
 ·cases h
noncomputable def cW : Itr
 | 158 => some (pureFn sp158)
 | 159 => some (onHeap h159)
 | _ => none
theorem cW_sound : Sound (dX cW) := dX_sound (fun f g h => by
 unfold cW at h
 split at h
 ·cases h; exact F158
 ·cases h; exact H159
 ·cases h)
theorem mark_idx {a : AV} {l : List Held} (h : slV heldC a = some l) {k : Nat} {p : Held} (hp : l[k]? = some p) (H : Heap) : indexAddrV Tryz.prog H 156 a (.int .i64 ↑k) = some (.vptr [.int .i64 p.b, .int .i64 p.x.lo, .int .i64 p.x.hi, .int .i64 p.y.lo, .int .i64 p.y.hi]) :=
 (slV_is h).1.idx (x := heldC.enc p) Tryz.underlying156 ty_lay181 (by simp [hp]) rfl
end Go.AM
namespace Go.AM
open Go
variable [Keep]
theorem flatD_fn {X : Ctx} (s : Sound X) {f : FuncId} {spec : List AV → Option AV} (hp : ∀ args v, spec args = some v → v.flat = true) (hr : ∀ args v, spec args = some v → ClR X f args emptyHp (isRet v)) : IntrFn X.P f (flatFnD spec) :=
 flatD_intr s hp fun args v h => by
  obtain ⟨r, h1, h2⟩ := hr args v h
  unfold isRet at h2
  split at h2
  ·subst h2; exact ⟨_, h1⟩
  ·exact h2.elim
theorem Blt.view {h : Heap} {v : AV} {sz : Nat} {l : List AV} (b : Blt h v sz l) (hp : ∀ a ∈ l, a.pur = true) : viewV h v = some (slN l) := by
 rcases b with ⟨rfl, rfl⟩ | ⟨id, rfl, hg, h3, hne⟩
 ·rfl
 ·have h1 : AV.purL l = true := purL_of hp
  cases l with
  | nil => exact absurd rfl hne
  | cons x l => simp [viewV, hg, h1, slN]
structure Four (h : Heap) (a b c d : AV) (k l m n : List AV) : Prop where
 ba : Blt h a 1 k
 bb : Blt h b 1 l
 bc' : Blt h c 1 m
 bd' : Blt h d 1 n
 ab : Sep a b
 ac : Sep a c
 ad : Sep a d
 bc : Sep b c
 bd : Sep b d
 cd : Sep c d
section
variable {h h' : Heap} {a b c d v : AV} {k l m n r : List AV} {i : Nat}
theorem Four.nil : Four h .nilslice .nilslice .nilslice .nilslice [] [] [] [] := ⟨.nil, .nil, .nil, .nil, .nil _, .nil _, .nil _, .nil _, .nil _, .nil _⟩
theorem Four.one (q : Four h a b c d k l m n) (hb : Blt h' v 1 r) (hk : Keeps h h' a) (he : v = .row h.next 0 i) : Four h' v b c d r l m n := by
 subst he
 exact ⟨hb, q.bb.apart hk q.ab, q.bc'.apart hk q.ac, q.bd'.apart hk q.ad, .new q.bb (Nat.le_refl _) _, .new q.bc' (Nat.le_refl _) _, .new q.bd' (Nat.le_refl _) _, q.bc, q.bd, q.cd⟩
theorem Four.turn (q : Four h a b c d k l m n) : Four h b c d a l m n k := ⟨q.bb, q.bc', q.bd', q.ba, q.bc, q.bd, q.ab.symm, q.cd, q.ac.symm, q.ad.symm⟩
theorem Four.two (q : Four h a b c d k l m n) (hb : Blt h' v 1 r) (hk : Keeps h h' b) (he : v = .row h.next 0 i) : Four h' a v c d k r m n := (q.turn.one hb hk he).turn.turn.turn
end
end Go.AM
namespace Go.AM
open Go Go.Proofs
variable [Keep]
attribute [local irreducible] W WO WO1 WD WQ WT thenQ blockQ endR isRet retK Cl ClR
theorem ck1_app (i : Nat) : ∀ (a b : List UInt8) (k : Nat), ck1 i k (a ++ b) = ck1 i k a + ck1 i (k + a.length) b := by
 intro a
 induction a with
 | nil => intro b k; simp [ck1]
 | cons x a ih =>
  intro b k
  simp only [List.cons_append, ck1, ih, List.length_cons]
  rw [show k + 1 + a.length = k + (a.length + 1) by omega]
  omega
theorem ck_app : ∀ (a b : List (List UInt8)) (i : Nat), ck i (a ++ b) = ck i a + ck (i + a.length) b := by
 intro a
 induction a with
 | nil => intro b k; simp [ck]
 | cons x a ih =>
  intro b k
  simp only [List.cons_append, ck, ih, List.length_cons]
  rw [show k + 1 + a.length = k + (a.length + 1) by omega]
  omega
theorem ck1_next {l : List UInt8} {j : Nat} {b : UInt8} (i : Nat) (h : l[j]? = some b) : ck1 i 0 (l.take (j + 1)) = ck1 i 0 (l.take j) + b.toNat * (j + 1) * (i + 1) := by
 have hj : j < l.length := (List.getElem?_eq_some_iff.1 h).1
 rw [take_next h, ck1_app]
 simp only [ck1, List.length_take, Nat.min_eq_left (Nat.le_of_lt hj), Nat.zero_add, Nat.add_zero]
theorem ck_next {L : List (List UInt8)} {k : Nat} {l : List UInt8} (h : L[k]? = some l) : ck 0 (L.take (k + 1)) = ck 0 (L.take k) + ck1 k 0 l := by
 have hk : k < L.length := (List.getElem?_eq_some_iff.1 h).1
 rw [take_next h, ck_app]
 simp only [ck, List.length_take, Nat.min_eq_left (Nat.le_of_lt hk), Nat.zero_add, Nat.add_zero]
theorem ck1_le (i : Nat) : ∀ (l : List UInt8) (k : Nat), k + l.length ≤ 100 → ck1 i k l ≤ l.length * (25500 * (i + 1)) := by
 intro l
 induction l with
 | nil => intro k _; simp [ck1]
 | cons b l ih =>
  intro k h
  simp only [List.length_cons] at h ⊢
  have h1 := ih (k + 1) (by omega)
  have h2 : b.toNat * (k + 1) ≤ 255 * 100 := Nat.mul_le_mul (by have := b.toNat_lt; omega) (by omega)
  have h3 := Nat.mul_le_mul_right (i + 1) h2
  simp only [ck1, Nat.add_mul, Nat.one_mul]
  omega
theorem ck_le : ∀ (L : List (List UInt8)) (i : Nat), (∀ l ∈ L, l.length ≤ 100) → i + L.length ≤ 600 → ck i L ≤ L.length * (100 * (25500 * 600)) := by
 intro L
 induction L with
 | nil => intro i _ _; simp [ck]
 | cons l L ih =>
  intro i hl hi
  simp only [List.length_cons] at hi ⊢
  have h1 := ih (i + 1) (fun x hx => hl x (List.mem_cons_of_mem _ hx)) (by omega)
  have hll := hl l (List.mem_cons_self ..)
  have h2 := ck1_le i l 0 (by omega)
  have h3 : l.length * (25500 * (i + 1)) ≤ 100 * (25500 * 600) := Nat.mul_le_mul hll (Nat.mul_le_mul_left _ (by omega))
  simp only [ck, Nat.add_mul, Nat.one_mul]
  omega
theorem ck_take_le {L : List (List UInt8)} (hl : ∀ l ∈ L, l.length ≤ 100) (hn : L.length ≤ 600) (k : Nat) : ck 0 (L.take k) ≤ 1000000000000 := by
 have h1 := ck_le (L.take k) 0 (fun l h => hl l (List.mem_of_mem_take h)) (by rw [List.length_take]; omega)
 have h2 : (L.take k).length ≤ 600 := by rw [List.length_take]; omega
 have h3 := Nat.mul_le_mul_right (100 * (25500 * 600)) h2
 omega
theorem ck1_take_le {l : List UInt8} (hl : l.length ≤ 100) {i : Nat} (hi : i ≤ 600) (j : Nat) : ck1 i 0 (l.take j) ≤ 10000000000 := by
 have h1 := ck1_le i (l.take j) 0 (by rw [List.length_take]; omega)
 have h2 : (l.take j).length ≤ 100 := by rw [List.length_take]; omega
 have h3 : (l.take j).length * (25500 * (i + 1)) ≤ 100 * (25500 * 601) := Nat.mul_le_mul h2 (Nat.mul_le_mul_left _ (by omega))
 omega
def okM (m : Mc) : Bool := smallM m && decide (m.st.length + m.rs.length ≤ 500)
theorem smallI_of {ns : List Int} (h : ns.all smallN = true) : ns.all smallI = true := by
 rw [List.all_eq_true] at h ⊢
 intro n hn
 have := h n hn
 unfold smallN at this
 unfold smallI
 simp only [Bool.and_eq_true, decide_eq_true_eq] at this ⊢
 omega
theorem lines_100 {m : Mc} : ∀ l ∈ linesM m, l.length ≤ 100 := by
 intro l h
 unfold linesM at h
 simp only [List.mem_cons, List.mem_append, List.mem_map] at h
 rcases h with rfl | ⟨p, hp, rfl⟩ | rfl | rfl | ⟨r, hr, rfl⟩
 ·exact Nat.le_trans (line_len _ _) (by simp [wMach, wStop, wChuck, wWear, wRead])
 ·exact Nat.le_trans (line_len _ _) (by simp [wMach, wStop, wChuck, wWear, wRead])
 ·exact Nat.le_trans (line_len _ _) (by simp [wMach, wStop, wChuck, wWear, wRead])
 ·exact Nat.le_trans (line_len _ _) (by simp [wMach, wStop, wChuck, wWear, wRead])
 ·exact Nat.le_trans (line_len _ _) (by simp [wMach, wStop, wChuck, wWear, wRead])
theorem lines_cnt (m : Mc) : (linesM m).length = m.st.length + m.rs.length + 3 := by
 simp only [linesM, List.length_append, List.length_cons, List.length_map]
 omega
theorem join_text (L : List (List UInt8)) (e : List UInt8) : Lib.join (L ++ [e]) [10] ++ [10] = (L ++ [e]).flatMap fun l => l ++ [10] := by
 induction L with
 | nil => simp [Lib.join_one]
 | cons a L ih =>
  have : Lib.join (a :: (L ++ [e])) [10] = a ++ [10] ++ Lib.join (L ++ [e]) [10] := by
   rw [Lib.join_cons]
   cases q : L ++ [e] with
   | nil => simp at q
   | cons b r =>
    rw [Lib.join_cons]
    simp [Lib.joinTail]
  rw [List.cons_append, this, List.append_assoc, ih]
  simp
theorem join_len (L : List (List UInt8)) (hl : ∀ l ∈ L, l.length ≤ 100) : (Lib.join L [10]).length ≤ 101 * L.length := by
 have ht : ∀ r : List (List UInt8), (∀ l ∈ r, l.length ≤ 100) → (Lib.joinTail [10] r).length ≤ 101 * r.length := by
  intro r
  induction r with
  | nil => intro _; simp [Lib.joinTail]
  | cons a r ih =>
   intro h
   have h1 := ih (fun l hl => h l (List.mem_cons_of_mem _ hl))
   have h2 := h a (List.mem_cons_self ..)
   simp only [Lib.joinTail, List.map_cons, List.flatten_cons, List.length_append, List.length_cons, List.length_nil] at h1 ⊢
   omega
 cases L with
 | nil => simp [Lib.join_nil]
 | cons a r =>
  rw [Lib.join_cons]
  have h1 := ht r (fun l h => hl l (List.mem_cons_of_mem _ h))
  have h2 := hl a (List.mem_cons_self ..)
  simp only [List.length_append, List.length_cons]
  omega
theorem strsOf_map : ∀ xs : List (List UInt8), strsOf (xs.map AV.str) = some xs := by
 intro xs
 induction xs with
 | nil => rfl
 | cons a r ih => simp [strsOf, ih]
theorem K182 {X : Ctx} (hX : X.intr 182 = some spJoin) {a : AV} {xs : List (List UInt8)} {h : Heap} (he : h.elems a = some (xs.map AV.str)) (h1 : xs.length ≤ maxL) (h2 : (Lib.join xs [10]).length ≤ maxL) : Cl X 182 [a, .str [10]] h (.ret (.str (Lib.join xs [10])) h none) :=
 Cl.intr hX (by
  have : (Nat.ble xs.length maxL && Nat.ble (Lib.join xs [10]).length maxL) = true := by
   simp only [Bool.and_eq_true, Nat.ble_eq]; exact ⟨h1, h2⟩
  simp only [spJoin, he, strsOf_map, this, if_true])
theorem row_str {u : AV} {L : List (List UInt8)} {hp : Heap} {b : Nat} (hB : BltN b hp u 1 (L.map AV.str)) {k : Nat} {l : List UInt8} (hk : L[k]? = some l) :
  ∃ id, indexAddrV Tryz.prog hp 208 u (.int .i64 ↑k) = some (.eptr id 1 k 0) ∧ hp.get id = some (.rw 1 (L.map AV.str)) ∧ (L.map AV.str)[k]? = some (.str l) := by
 have hlt : k < (L.map AV.str).length := by rw [List.length_map]; exact (List.getElem?_eq_some_iff.1 hk).1
 obtain ⟨id, h1, h2⟩ := hB.blt.idx (P := Tryz.prog) Tryz.underlying208 ty_lay9 hlt
 exact ⟨id, h1, h2, by simp [hk]⟩
theorem idx_j {l : List UInt8} {j : Nat} (hj : j < l.length) : idxV (.int .i64 ↑j) l.length = some j := by simp [idxV, hj]
end Go.AM
namespace Go.AM
open Go
variable [Keep]
section
variable {X : Ctx} {F : Fr} {Q : Out → Prop} {g : Operand} {params : Array Tmp} {assign body : Code} {fid : FuncId} {first capt ps : List AV} {v : AV} {h : Heap} {up : Option (AV × Bool)} {f : FuncId} {e : Mp AV} {pl : List Tmp} {a b : Code} {st : LoopState}
end
def roundQ (X : Ctx) (id : Nat) (R : COut → Prop) : Out → Prop := fun o => R (roundEnd X.P id o)
def RdR (X : Ctx) (id : Nat) (args : List AV) (h : Heap) (R : COut → Prop) : Prop := ∃ r, (∃ n, ∀ m, n ≤ m → roundV X (ev X m) id args h = r) ∧ R r
section
variable {X : Ctx} {f : FuncId} {ops : Array Oper} {ts : List (Nat × Trace)} {i k j : Nat} {r : List (Nat × Nat)} {x y o : Oper} {d : Option Tmp} {op : Op} {T : TypeId} {ps : String} {af : Array Edge} {want b : Bool} {s : Tmp}
  {f1 f2 : FuncId} {r1 r2 : Bool} {e1 e2 : Mp AV} {lm1 lm2 : Mp (Nat × List AV)} {hp1 hp2 : Heap} {df1 df2 : List (AV × List AV)} {up1 up2 : Option (AV × Bool)} {v1 v2 : AV} {a1 b2 : Fr}
end
end Go.AM
