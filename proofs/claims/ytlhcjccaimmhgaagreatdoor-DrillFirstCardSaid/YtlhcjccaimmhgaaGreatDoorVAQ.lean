/-
  A part of the proof: contracts of functions.
-/
import Derived.Test.YtlhcjccaimmhgaaGreatDoorVAP
import Derived.Test.YtlhcjccaimmhgaaGreatDoorVAK
import Derived.Test.YtlhcjccaimmhgaaGreatDoorVAM
set_option linter.unusedSectionVars false
set_option linter.unusedVariables false
set_option linter.unusedSimpArgs false
set_option maxRecDepth 100000
namespace Go.AM
open Go Go.Proofs
variable [Keep]
attribute [local irreducible] W WO WO1 WD WQ WT thenQ blockQ endR isRet retK Cl ClR
def onR (ax : Ax) : Nat -> List Sp -> List Sp
 | 0, out => out.set 0 (interS (out.getD 0 ⟨0, 0⟩) ax.chuck)
 | n + 1, out => (onR ax n out).set (n + 1) (interS ((onR ax n out).getD (n + 1) ⟨0, 0⟩) (nxtS ax ((onR ax n out).getD n ⟨0, 0⟩)))
theorem onR_len (ax : Ax) (l : List Sp) : ∀ n, (onR ax n l).length = l.length := by
 intro n
 induction n with
 | zero => simp [onR]
 | succ n ih => simp [onR, ih]
def lookS (t : List Sp) : AV := if t.any empS then .tuple [.nilslice, .bool false] else .tuple [slN (t.map spC.enc), .bool true]
def axisV (ax : Ax) (l : List Sp) : AV := lookS (backS ax 12 (onR ax 12 l))
def isAxi (ax : Ax) (l : List Sp) (h : Heap) (r : COut) : Prop := ∃ h', HExt h h' /\ r = .ret (axisV ax l) h' none
theorem isAxi_fail {ax : Ax} {l : List Sp} {h : Heap} : ¬ isAxi ax l h .fail := by rintro ⟨_, _, e⟩; cases e
theorem isAxi_no {ax : Ax} {l : List Sp} {h hp : Heap} (e : axisV ax l = .tuple [.nilslice, .bool false]) (hx : h.next <= hp.next /\ ∀ id, id < h.next -> hp.get id = h.get id) : isAxi ax l h (.ret (.tuple [.nilslice, .bool false]) hp none) := ⟨hp, hx, by rw [e]⟩
theorem isAxi_yes {ax : Ax} {l : List Sp} {h hp : Heap} {t : List Sp} (e : axisV ax l = .tuple [.vslice (t.map spC.enc), .bool true]) (hx : h.next <= hp.next /\ ∀ id, id < h.next -> hp.get id = h.get id) : isAxi ax l h (.ret (.tuple [.vslice (t.map spC.enc), .bool true]) hp none) := ⟨hp, hx, by rw [e]⟩
theorem row_idx {H : Heap} {id k : Nat} {cur : List Sp} (hk : k < 13) (hg : H.get id = some (.rw 2 (cur.map spC.enc))) : indexAddrV Tryz.prog H 146 (.row id 0 13) (.int .i64 ↑k) = some (.eptr id 2 k 0) := by
 have h1 : idxV (.int .i64 ↑k) 13 = some k := by
  simp only [idxV]
  rw [if_pos (by omega)]
  simp
 simp only [indexAddrV, Tryz.underlying146, ty_lay48, h1, hg, if_true, Nat.zero_add]
theorem row_idx0 {H : Heap} {id : Nat} {cur : List Sp} (hg : H.get id = some (.rw 2 (cur.map spC.enc))) : indexAddrV Tryz.prog H 146 (.row id 0 13) (.int .i64 0) = some (.eptr id 2 0 0) := row_idx (k := 0) (by omega) hg
theorem row_at {k : Nat} {cur : List Sp} {p : Sp} (hp : cur[k]? = some p) : (cur.map spC.enc)[k]? = some (.agg [.int .i64 p.lo, .int .i64 p.hi]) := by simp [hp, spC]
theorem getD_of {k : Nat} {cur : List Sp} {p : Sp} (hp : cur[k]? = some p) : cur.getD k ⟨0, 0⟩ = p := by simp [List.getD, hp]
attribute [local irreducible] isAxi
set_option maxHeartbeats 2000000 in
theorem C159 (c : Itr) (hc : c 159 = none) (hc2 : c 158 = some (pureFn sp158)) (ax : Ax) (l : List Sp) (ow : AV) (h : Heap) (hel : h.elems ow = some (l.map spC.enc)) (hout : outV (some ow) = some ow) (h13 : l.length = 13) :
  ClR (dX c) 159 [.agg [.int .i64 ax.chuck.lo, .int .i64 ax.chuck.hi], .agg [.int .i64 ax.wear.lo, .int .i64 ax.wear.hi], ow] h (isAxi ax l h) := by
 have hne : l.map spC.enc ≠ [] := by
  intro e
  have : l = [] := by simpa using e
  rw [this] at h13
  simp at h13
 have hsz : ∀ v ∈ l.map spC.enc, v.cells.length = 2 := by
  intro v hv
  obtain ⟨p, _, rfl⟩ := List.mem_map.1 hv
  rfl
 have hmost : ([] : List AV).length + (l.map spC.enc).length <= most := by simp only [List.length_nil, List.length_map, h13]; decide
 have H13 := Lib.hid h13
 clear h13
 refine ClR.walk (c := _) hc Tryz.func159 rfl (by kernel_rfl) rfl isAxi_fail ?_
 simp only [entryEnv, Nat.reduceAdd]
 repeat' (first | (apply WO1.appendN (t := 146) (u := 146) (e := 48) (e' := 48) (sz := 2) (tl := []) (b := h.next) (h0 := h) (l := []) (hb := BltN.nil) (hx := ⟨Nat.le_refl _, fun _ _ => rfl⟩); exact Z1; exact rfl; exact Z2; exact Z2; exact Z2; (focus (exact ty_row146)); exact Z1; (focus (exact hsz)); (focus (exact hmost)); (focus (exact hne)); (intro v' h' hB' ho' hX'; simp only [pM, pN])) | refine go1 ?_ | refine go2 (fun hh => ?_) (fun hh => ?_) | fail)
 rw [List.nil_append] at hB'
 obtain ⟨id, hu, hgr, hbid, hidn⟩ := hB'.row hne
 have hu13 : v' = .row id 0 13 := by rw [hu, List.length_map, H13.out]
 subst hu13
 obtain ⟨p0, hp0⟩ := get_some (show 0 < l.length by rw [H13.out]; omega)
 have hix := row_idx0 hgr
 have hrw := row_at hp0
 have hbig : hidn = hidn := rfl
 have HP0 := Lib.hid hp0
 clear hB' hu hne hsz hmost hel hp0 hbig
 repeat' (first | (apply W.drawQ (id := 2) (l1 := [0, 1, 2, 3, 4, 5, 6]) (l2 := [7]); kernel_rfl; kernel_rfl; kernel_rfl; exact Z4) | (apply W.drawQ (id := 6) (l1 := [0, 1, 2, 3, 4, 5, 6, 7, 8, 9, 10, 11, 12, 13, 14, 15, 16, 17, 18, 19, 20, 21, 22, 23, 24, 25, 26]) (l2 := [27]); kernel_rfl; kernel_rfl; kernel_rfl; exact Z4) | (apply W.drawQ (id := 10) (l1 := [0, 1, 2, 3, 4, 5, 6, 7, 8, 9, 10, 11, 12, 13, 14, 15, 16, 17, 18, 19, 20, 21, 22, 23, 24, 25, 26]) (l2 := [27]); kernel_rfl; kernel_rfl; kernel_rfl; exact Z4) | (apply W.drawQ (id := 14) (l1 := [0, 1, 2, 3, 4, 5, 6, 7, 8, 9, 10]) (l2 := []); kernel_rfl; kernel_rfl; kernel_rfl; exact Z4) | refine go1 ?_ | (apply U6; exact Z1; exact Z1; (focus (simp only [List.nil_append, List.append_nil]; first | exact K158 hc2 _ _ _ _ _)); simp only [pM, pN, rR, rP]) | refine go2 (fun hh => ?_) (fun hh => ?_) | fail)
 refine W.loopN 12 (fun k F => ∃ e lm hp, F = Fr.mk 159 false e lm hp [] none /\ hp.get id = some (.rw 2 ((onR ax k l).map spC.enc)) /\ (id < hp.next /\ h.next <= hp.next /\ ∀ id, id < h.next -> hp.get id = h.get id) /\
  lm.get 3 = some (0, [.int .i64 ax.chuck.lo, .int .i64 ax.chuck.hi]) /\ lm.get 4 = some (0, [.int .i64 ax.wear.lo, .int .i64 ax.wear.hi]) /\ e.get 3 = some (.lptr 3 0 0) /\ e.get 4 = some (.lptr 4 0 0) /\ e.get 8 = some (.row id 0 13) /\ e.get 9 = some (.int .i64 ↑(k + 1)) /\ k <= 12) ?_ ?_
 ·refine ⟨_, _, _, rfl, ?_, ?_, ?_, ?_, ?_, ?_, ?_, ?_, ?_⟩
  ·have hp0 := HP0.out
   simp only [onR, getD_of hp0]
   simp [Heap.get, Heap.put, List.map_set, spC, asElem, isAggV, interS]
  ·refine ⟨hidn, hX'.1, fun i hi => ?_⟩
   have hne : id ≠ i := by omega
   rw [<- hX'.2 i hi]
   simp [Heap.get, Heap.put, hne]
  all_goals first | exact Z2 | simp [go_sem, *]
 clear hix hrw HP0 hgr hX' hidn ho' hout p0
 rintro k F ⟨e, lm, hp, rfl, hgid, hX, hl3, hl4, h3, h4, h8, h9, hk⟩
 have hlc : (onR ax k l).length = 13 := by rw [onR_len, H13.out]
 by_cases hlt : k < 12
 ·have hd : decide ((↑(k + 1) : Int) <= 12) = true := by simp; omega
  obtain ⟨pb, hpb⟩ := get_some (show k + 1 < (onR ax k l).length by omega)
  obtain ⟨pn, hpn⟩ := get_some (show k < (onR ax k l).length by omega)
  have hw1 : IntKind.i64.wrap (↑(k + 1) - 1) = ↑k := by rw [wrap_small (by omega) (by omega)]; omega
  have hw2 : IntKind.i64.wrap (↑(k + 1) + 1) = ↑(k + 1 + 1) := by rw [wrap_small (by omega) (by omega)]; omega
  have hrb := row_at hpb
  have hrn := row_at hpn
  have hixb := row_idx (show k + 1 < 13 by omega) hgid
  have hixn := row_idx (show k < 13 by omega) hgid
  have hon : onR ax (k + 1) l = (onR ax k l).set (k + 1) (interS pb (nxtS ax pn)) := by
   simp only [onR, getD_of hpb, getD_of hpn]
  have HON := Lib.hid hon
  clear hon hpb hpn hlc
  generalize onR ax k l = cur at hgid hrb hrn HON
  generalize hn : k + 1 = n at *
  repeat' (first | (apply W.drawQ (id := 2) (l1 := [0, 1, 2, 3, 4, 5, 6]) (l2 := [7]); kernel_rfl; kernel_rfl; kernel_rfl; exact Z4) | (apply W.drawQ (id := 6) (l1 := [0, 1, 2, 3, 4, 5, 6, 7, 8, 9, 10, 11, 12, 13, 14, 15, 16, 17, 18, 19, 20, 21, 22, 23, 24, 25, 26]) (l2 := [27]); kernel_rfl; kernel_rfl; kernel_rfl; exact Z4) | (apply W.drawQ (id := 10) (l1 := [0, 1, 2, 3, 4, 5, 6, 7, 8, 9, 10, 11, 12, 13, 14, 15, 16, 17, 18, 19, 20, 21, 22, 23, 24, 25, 26]) (l2 := [27]); kernel_rfl; kernel_rfl; kernel_rfl; exact Z4) | (apply W.drawQ (id := 14) (l1 := [0, 1, 2, 3, 4, 5, 6, 7, 8, 9, 10]) (l2 := []); kernel_rfl; kernel_rfl; kernel_rfl; exact Z4) | refine go1 ?_ | (apply U6; exact Z1; exact Z1; (focus (simp only [List.nil_append, List.append_nil]; first | exact K158 hc2 _ _ _ _ _)); simp only [pM, pN, rR, rP]) | refine go2 (fun hh => ?_) (fun hh => ?_) | fail)
  subst hn
  refine ⟨hlt, _, _, _, rfl, ?_, ?_, ?_, ?_, ?_, ?_, ?_, ?_, by omega⟩
  ·rw [HON.out]
   simp [Heap.get, Heap.put, List.map_set, spC, asElem, isAggV, interS, nxtS, w64]
  ·refine ⟨hX.1, hX.2.1, fun i hi => ?_⟩
   have hne : id ≠ i := by omega
   rw [<- hX.2.2 i hi]
   simp [Heap.get, Heap.put, hne]
  all_goals exact Z2
 ·have hd : decide ((↑(k + 1) : Int) <= 12) = false := by simp; omega
  have hk12 : k = 12 := by omega
  subst hk12
  have HM := Lib.hid (show backS ax 12 (onR ax 12 l) = backS ax 12 (onR ax 12 l) from rfl)
  generalize hmid : onR ax 12 l = mid at *
  have hmv : axisV ax l = lookS (backS ax 12 mid) := by unfold axisV; rw [hmid]
  have HV := Lib.hid hmv
  have HGR := Lib.hid hgid
  have HLC := Lib.hid hlc
  clear hmid hmv hgid hlc hlt HM
  repeat' (first | refine goS ?_ | refine go2 (fun hh => ?_) (fun hh => ?_) | fail)
  refine W.loopN 12 (fun j F => ∃ e lm hp cur, F = Fr.mk 159 false e lm hp [] none /\ backS ax (12 - j) cur = backS ax 12 mid /\ cur.length = 13 /\ hp.get id = some (.rw 2 (cur.map spC.enc)) /\ (id < hp.next /\ h.next <= hp.next /\ ∀ id, id < h.next -> hp.get id = h.get id) /\
   lm.get 4 = some (0, [.int .i64 ax.wear.lo, .int .i64 ax.wear.hi]) /\ e.get 4 = some (.lptr 4 0 0) /\ e.get 8 = some (.row id 0 13) /\ e.get 10 = some (.int .i64 ↑(12 - j)) /\ j <= 12) ?_ ?_
  ·refine ⟨_, _, _, mid, rfl, rfl, HLC.out, HGR.out, hX, ?_, ?_, ?_, ?_, ?_⟩ <;> first | exact Z2 | simp [go_sem, *]
  clear hd h9 hl3 h3 hk
  rintro j F ⟨e, lm, hp, cur, rfl, hbw, hcl13, hgid, hX, hl4, h4, h8, h10, hj⟩
  have HBW := Lib.hid hbw
  have HC := Lib.hid hcl13
  clear hbw
  by_cases hjt : j < 12
  ·have hdj : decide ((↑(12 - j) : Int) > 0) = true := by simp; omega
   obtain ⟨pb, hpb⟩ := get_some (show 11 - j < cur.length by omega)
   obtain ⟨pn, hpn⟩ := get_some (show 12 - j < cur.length by omega)
   have hw1 : IntKind.i64.wrap (↑(12 - j) - 1) = ↑(11 - j) := by rw [wrap_small (by omega) (by omega)]; omega
   have hrb := row_at hpb
   have hrn := row_at hpn
   have hixb := row_idx (show 11 - j < 13 by omega) hgid
   have hixn := row_idx (show 12 - j < 13 by omega) hgid
   have hstep : backS ax (12 - j) cur = backS ax (11 - j) (cur.set (11 - j) (interS pb (prvS ax pn))) := by
    rw [show 12 - j = (11 - j) + 1 from by omega]
    show backS ax (11 - j) _ = _
    rw [getD_of hpb, show 11 - j + 1 = 12 - j from by omega, getD_of hpn]
   have HST := Lib.hid hstep
   clear hstep hpb hpn hcl13
   generalize hn : 12 - j = n at *
   generalize hn1 : 11 - j = n1 at *
   repeat' (first | (apply W.drawQ (id := 2) (l1 := [0, 1, 2, 3, 4, 5, 6]) (l2 := [7]); kernel_rfl; kernel_rfl; kernel_rfl; exact Z4) | (apply W.drawQ (id := 6) (l1 := [0, 1, 2, 3, 4, 5, 6, 7, 8, 9, 10, 11, 12, 13, 14, 15, 16, 17, 18, 19, 20, 21, 22, 23, 24, 25, 26]) (l2 := [27]); kernel_rfl; kernel_rfl; kernel_rfl; exact Z4) | (apply W.drawQ (id := 10) (l1 := [0, 1, 2, 3, 4, 5, 6, 7, 8, 9, 10, 11, 12, 13, 14, 15, 16, 17, 18, 19, 20, 21, 22, 23, 24, 25, 26]) (l2 := [27]); kernel_rfl; kernel_rfl; kernel_rfl; exact Z4) | (apply W.drawQ (id := 14) (l1 := [0, 1, 2, 3, 4, 5, 6, 7, 8, 9, 10]) (l2 := []); kernel_rfl; kernel_rfl; kernel_rfl; exact Z4) | refine go1 ?_ | (apply U6; exact Z1; exact Z1; (focus (simp only [List.nil_append, List.append_nil]; first | exact K158 hc2 _ _ _ _ _)); simp only [pM, pN, rR, rP]) | refine go2 (fun hh => ?_) (fun hh => ?_) | fail)
   refine ⟨hjt, _, _, _, cur.set n1 (interS pb (prvS ax pn)), rfl, ?_, ?_, ?_, ?_, ?_, ?_, ?_, ?_, by omega⟩
   ·rw [show 12 - (j + 1) = n1 from by omega, <- HBW.out, HST.out]
   ·rw [List.length_set]; exact HC.out
   ·simp [Heap.get, Heap.put, List.map_set, spC, asElem, isAggV, interS, prvS, w64]
   ·refine ⟨hX.1, hX.2.1, fun i hi => ?_⟩
    have hne : id ≠ i := by omega
    rw [<- hX.2.2 i hi]
    simp [Heap.get, Heap.put, hne]
   ·simp only [go_sem, *, Nat.reduceLT, Int.reduceEq, Int.reduceBEq, Int.reduceLE, Int.reduceLT, Nat.reduceAdd, Nat.reduceBEq, Nat.reduceEqDiff, reduceIte, Nat.reduceLeDiff, Nat.reduceMul, Nat.reduceSub, reduceCtorEq]; done
   ·simp only [go_sem, *, Nat.reduceLT, Int.reduceEq, Int.reduceBEq, Int.reduceLE, Int.reduceLT, Nat.reduceAdd, Nat.reduceBEq, Nat.reduceEqDiff, reduceIte, Nat.reduceLeDiff, Nat.reduceMul, Nat.reduceSub, reduceCtorEq]; done
   ·simp only [go_sem, *, Nat.reduceLT, Int.reduceEq, Int.reduceBEq, Int.reduceLE, Int.reduceLT, Nat.reduceAdd, Nat.reduceBEq, Nat.reduceEqDiff, reduceIte, Nat.reduceLeDiff, Nat.reduceMul, Nat.reduceSub, reduceCtorEq]; done
   ·rw [show 12 - (j + 1) = n1 from by omega]
    simp only [go_sem, *, Nat.reduceLT, Int.reduceEq, Int.reduceBEq, Int.reduceLE, Int.reduceLT, Nat.reduceAdd, Nat.reduceBEq, Nat.reduceEqDiff, reduceIte, Nat.reduceLeDiff, Nat.reduceMul, Nat.reduceSub, reduceCtorEq]
  ·have hdj : decide ((↑(12 - j) : Int) > 0) = false := by simp; omega
   have hj12 : j = 12 := by omega
   have hbc : cur = backS ax 12 mid := by rw [<- HBW.out, hj12]; rfl
   have hmv : axisV ax l = lookS cur := by rw [HV.out, hbc]
   have HV2 := Lib.hid hmv
   clear hbc hj12 hcl13 hmv
   repeat' (first | refine goS ?_ | refine go2 (fun hh => ?_) (fun hh => ?_) | fail)
   refine W.loopN 13 (fun k F => ∃ e lm, F = Fr.mk 159 false e lm hp [] none /\ (cur.take k).any empS = false /\ e.get 8 = some (.row id 0 13) /\ e.get 11 = some (.int .i64 ↑k) /\ k <= 13) ?_ ?_
   ·refine ⟨_, _, rfl, ?_, ?_, ?_, ?_⟩ <;> first | exact Z2 | simp [go_sem, *]
   clear h10 hl4 h4 h8 hdj
   rintro k F ⟨e, lm, rfl, hany, h8, h11, hk⟩
   have HA := Lib.hid hany
   clear hany
   by_cases hkt : k < 13
   ·have hdk : decide ((k : Int) <= 12) = true := by simp; omega
    obtain ⟨pk, hpk⟩ := get_some (show k < cur.length by rw [HC.out]; omega)
    have hrk := row_at hpk
    have hixk := row_idx hkt hgid
    have hwk := wrap_succ hkt (by unfold maxL; omega)
    have hnx := take_next hpk
    have HNX := Lib.hid hnx
    have hno : empS pk = true -> axisV ax l = .tuple [.nilslice, .bool false] := fun he => by
     have : cur.any empS = true := List.any_eq_true.2 ⟨pk, List.mem_of_getElem? hpk, he⟩
     rw [HV2.out, lookS, this]
     rfl
    have HNO := Lib.hid hno
    clear hnx hno hpk
    by_cases hem : pk.lo > pk.hi
    ·have hde : decide (pk.lo > pk.hi) = true := by simpa using hem
     have hv := HNO.out (by simpa [empS] using hem)
     have HVV := Lib.hid hv
     clear hv hem
     repeat' (first | (apply W.drawQ (id := 2) (l1 := [0, 1, 2, 3, 4, 5, 6]) (l2 := [7]); kernel_rfl; kernel_rfl; kernel_rfl; exact Z4) | (apply W.drawQ (id := 6) (l1 := [0, 1, 2, 3, 4, 5, 6, 7, 8, 9, 10, 11, 12, 13, 14, 15, 16, 17, 18, 19, 20, 21, 22, 23, 24, 25, 26]) (l2 := [27]); kernel_rfl; kernel_rfl; kernel_rfl; exact Z4) | (apply W.drawQ (id := 10) (l1 := [0, 1, 2, 3, 4, 5, 6, 7, 8, 9, 10, 11, 12, 13, 14, 15, 16, 17, 18, 19, 20, 21, 22, 23, 24, 25, 26]) (l2 := [27]); kernel_rfl; kernel_rfl; kernel_rfl; exact Z4) | (apply W.drawQ (id := 14) (l1 := [0, 1, 2, 3, 4, 5, 6, 7, 8, 9, 10]) (l2 := []); kernel_rfl; kernel_rfl; kernel_rfl; exact Z4) | refine go1 ?_ | refine go2 (fun hh => ?_) (fun hh => ?_) | fail)
     all_goals (simp only [resV_def (X := dX c) Tryz.func159, Tryz.results159]; first | exact J5 | refine J6 ?_)
     exact isAxi_no HVV.out hX.2
    ·have hde : decide (pk.lo > pk.hi) = false := by simpa using hem
     have hee : empS pk = false := by simpa [empS] using hem
     have HE := Lib.hid hee
     clear hem hee
     repeat' (first | (apply W.drawQ (id := 2) (l1 := [0, 1, 2, 3, 4, 5, 6]) (l2 := [7]); kernel_rfl; kernel_rfl; kernel_rfl; exact Z4) | (apply W.drawQ (id := 6) (l1 := [0, 1, 2, 3, 4, 5, 6, 7, 8, 9, 10, 11, 12, 13, 14, 15, 16, 17, 18, 19, 20, 21, 22, 23, 24, 25, 26]) (l2 := [27]); kernel_rfl; kernel_rfl; kernel_rfl; exact Z4) | (apply W.drawQ (id := 10) (l1 := [0, 1, 2, 3, 4, 5, 6, 7, 8, 9, 10, 11, 12, 13, 14, 15, 16, 17, 18, 19, 20, 21, 22, 23, 24, 25, 26]) (l2 := [27]); kernel_rfl; kernel_rfl; kernel_rfl; exact Z4) | (apply W.drawQ (id := 14) (l1 := [0, 1, 2, 3, 4, 5, 6, 7, 8, 9, 10]) (l2 := []); kernel_rfl; kernel_rfl; kernel_rfl; exact Z4) | refine go1 ?_ | refine go2 (fun hh => ?_) (fun hh => ?_) | fail)
     refine ⟨hkt, _, _, rfl, ?_, ?_, ?_, by omega⟩
     ·have h1 := HA.out
      have h2 := HE.out
      rw [HNX.out]
      simp [h1, h2]
     all_goals exact Z2
   ·have hdk : decide ((k : Int) <= 12) = false := by simp; omega
    have hk13 : k = 13 := by omega
    have hany := HA.out
    rw [hk13, List.take_of_length_le (by rw [HC.out]; omega)] at hany
    have hsl : slN (cur.map spC.enc) = .vslice (cur.map spC.enc) := by
     have h13 := HC.out
     cases cur with
     | nil => simp at h13
     | cons x r => rfl
    have hv : axisV ax l = .tuple [.vslice (cur.map spC.enc), .bool true] := by
     rw [HV2.out, lookS, hany, hsl]
     rfl
    have HVV := Lib.hid hv
    have hz : frz1 hp (.row id 0 13) = some (.vslice (cur.map spC.enc), hp.del id) := by
     simp only [frz1, hgid, List.length_map, HC.out, Nat.zero_add, Nat.le_refl, if_true, List.drop_zero]
     rw [List.take_of_length_le (by simp [HC.out])]
    have hz2 : frz2 hp (.row id 0 13) = some (.vslice (cur.map spC.enc), hp.del id) := hz
    clear hv hany hsl hk13
    repeat' (first | (apply W.drawQ (id := 2) (l1 := [0, 1, 2, 3, 4, 5, 6]) (l2 := [7]); kernel_rfl; kernel_rfl; kernel_rfl; exact Z4) | (apply W.drawQ (id := 6) (l1 := [0, 1, 2, 3, 4, 5, 6, 7, 8, 9, 10, 11, 12, 13, 14, 15, 16, 17, 18, 19, 20, 21, 22, 23, 24, 25, 26]) (l2 := [27]); kernel_rfl; kernel_rfl; kernel_rfl; exact Z4) | (apply W.drawQ (id := 10) (l1 := [0, 1, 2, 3, 4, 5, 6, 7, 8, 9, 10, 11, 12, 13, 14, 15, 16, 17, 18, 19, 20, 21, 22, 23, 24, 25, 26]) (l2 := [27]); kernel_rfl; kernel_rfl; kernel_rfl; exact Z4) | (apply W.drawQ (id := 14) (l1 := [0, 1, 2, 3, 4, 5, 6, 7, 8, 9, 10]) (l2 := []); kernel_rfl; kernel_rfl; kernel_rfl; exact Z4) | refine go1 ?_ | refine go2 (fun hh => ?_) (fun hh => ?_) | fail)
    all_goals try (simp only [resV_def (X := dX c) Tryz.func159, Tryz.results159]; first | exact J5 | refine J6 ?_)
    refine isAxi_yes HVV.out ⟨hX.2.1, fun i hi => ?_⟩
    have hne : id ≠ i := by omega
    rw [<- hX.2.2 i hi]
    simp [Heap.get, Heap.del, hne]
end Go.AM
namespace Go.AM
open Go Go.Proofs
variable [Keep]
attribute [local irreducible] W WO WO1 WD WQ WT thenQ blockQ endR isRet retK Cl ClR
theorem calm_cons {X : Ctx} {f : FuncId} {ops : Array Oper} {ts : List (Nat × Trace)} {i k : Nat} {r : List (Nat × Nat)} {y : Oper} {d : Option Tmp} {op : Op} {T : TypeId} {ps : String} {af : Array Edge}
  {f1 f2 : FuncId} {r1 r2 : Bool} {e1 e2 : Mp AV} {lm1 lm2 : Mp (Nat × List AV)} {hp1 hp2 : Heap} {df1 df2 : List (AV × List AV)} {up1 up2 : Option (AV × Bool)} {v1 v2 : AV} {a1 b2 : Fr}
  (h1 : ops[i]? = some ⟨d, op, T, ps, af, none⟩) (h2 : ops[k]? = some y) (h3 : traceOf ts i = some ⟨Fr.mk f1 r1 e1 lm1 hp1 df1 up1, v1, a1⟩) (h4 : traceOf ts k = some ⟨b2, v2, Fr.mk f2 r2 e2 lm2 hp2 df2 up2⟩)
  (h5 : isEffD X f ⟨d, op, T, ps, af, none⟩ = false) (h7 : rdV X (Fr.mk f1 r1 e1 lm2 hp2 df1 up1) d op = some v1) (h8 : r.all (calmPair X f ops ts) = true) : ((i, k) :: r).all (calmPair X f ops ts) = true := by
 simp only [List.all_cons, h8, Bool.and_true, calmPair, h1, h2, h3, h4, h5, Bool.false_eq_true, if_false, rereads, wantedA, if_true, h7]
 exact AV.same_refl _
theorem calm_nil {X : Ctx} {f : FuncId} {ops : Array Oper} {ts : List (Nat × Trace)} : ([] : List (Nat × Nat)).all (calmPair X f ops ts) = true := rfl
theorem C102 (c : Itr) (hc : c 102 = none) (sa ra : AV) (cx cy wx wy : Sp) (hfs : ∀ hp : Heap, frz1 hp sa = some (sa, hp)) (hfr : ∀ hp : Heap, frz1 hp ra = some (ra, hp)) (n : Nat) (m : Mp Blk) :
  Cl (dX c) 102 [.agg [sa, .int .i64 cx.lo, .int .i64 cx.hi, .int .i64 cy.lo, .int .i64 cy.hi, .int .i64 wx.lo, .int .i64 wx.hi, .int .i64 wy.lo, .int .i64 wy.hi, ra]] ⟨n, m⟩
   (.ret (.agg [sa, .int .i64 cx.lo, .int .i64 cx.hi, .int .i64 cy.lo, .int .i64 cy.hi, .int .i64 wx.lo, .int .i64 wx.hi, .int .i64 wy.lo, .int .i64 wy.hi, ra, .map n]) ⟨n + 1, m.set n (.mp [])⟩ none) := by
 refine ClR.cl ?_
 refine ClR.walk (c := _) hc Tryz.func102 rfl (by kernel_rfl) rfl (fun e => by cases e) ?_
 simp only [entryEnv, Nat.reduceAdd]
 repeat' (first | (apply U5; exact rfl; (focus (intro cl rd; simp only [go_sem, *, Nat.reduceLT, Int.reduceEq, Int.reduceBEq, Int.reduceLE, Int.reduceLT, Nat.reduceAdd, Nat.reduceBEq, Nat.reduceEqDiff, reduceIte, Nat.reduceLeDiff, Nat.reduceMul, Nat.reduceSub, reduceCtorEq, efV, Fr.mapE, Heap.new]; with_reducible rfl)); simp only [pM, pN]) | refine go1 ?_ | refine go2 (fun hh => ?_) (fun hh => ?_) | fail)
 all_goals (simp only [resV_def (X := dX c) Tryz.func102, Tryz.results102]; first | exact J5 | refine J6 ?_)
 have e1 : ∀ (h : Heap) k n, frz1 h (.int k n) = some (.int k n, h) := fun _ _ _ => rfl
 have e2 : ∀ (h : Heap) n, frz1 h (.map n) = some (.map n, h) := fun _ _ => rfl
 simp only [isR, frzRes, dX_frz, dFrz, freeze, frz2, frzCells, hfs, hfr, e1, e2, if_true]
theorem bwdS_len (ax : Ax) : ∀ n (out t : List Sp), bwdS ax n out = some t -> t.length = out.length := by
 intro n
 induction n with
 | zero => intro out t h; simp [bwdS] at h; rw [h]
 | succ n ih =>
  intro out t h
  rw [bwdS_succ] at h
  split at h
  ·cases h
  ·rw [ih _ _ h]; simp
theorem boundsS_len {ax : Ax} {o : List Sp} (h : boundsS ax = some o) : o.length = 13 := by
 rw [boundsS_def] at h
 cases hf : fwdS ax 13 with
 | none => rw [hf] at h; cases h
 | some out =>
  rw [hf] at h
  rw [bwdS_len ax 12 out o h, fwdS_len ax 13 out hf]
theorem K103h {X : Ctx} (hX : X.intr 103 = some (onHeap h103)) (sa ra mv : AV) (cx cy wx wy : Sp) (rs : List Rdg) (hr : slV rdgC ra = some rs) (hs : sa.one = true) (hm : mv.one = true) (h : Heap) :
  Cl X 103 [.agg [sa, .int .i64 cx.lo, .int .i64 cx.hi, .int .i64 cy.lo, .int .i64 cy.hi, .int .i64 wx.lo, .int .i64 wx.hi, .int .i64 wy.lo, .int .i64 wy.hi, ra, mv], .nilslice] h (.ret (knV (ax0 cx wx rs []) (ax1 cy wy rs [])) h none) :=
 Cl.intr hX (by
  have h1 : slV heldC .nilslice = some [] := rfl
  have h2 : (Nat.ble (rs.length + ([] : List Held).length) maxL && sa.one && mv.one) = true := by
   rw [hs, hm]
   simp [Nat.ble_eq]
   exact sl_max hr
  simp only [onHeap, h103, sp103, hr, h1, h2, if_true])
theorem sl_one {α : Type} {c : Cd α} {a : AV} {l : List α} (h : slV c a = some l) : a.one = true /\ isTuple a = false := by
 rcases (slV_is h).1 with ⟨rfl | rfl, _⟩ | rfl <;> exact ⟨rfl, rfl⟩
end Go.AM
namespace Go.AM
open Go Go.Proofs
variable [Keep]
attribute [local irreducible] W WO WO1 WD WQ WT thenQ blockQ endR isRet retK Cl ClR
def marksOf (rs : List Rdg) : List Held := rs.map fun r => ⟨r.b, ⟨w64 (r.x - r.err), w64 (r.x + r.err)⟩, ⟨w64 (r.y - r.err), w64 (r.y + r.err)⟩⟩
def sp106 : List AV -> Option AV
 | [.agg [sa, .int .i64 cxl, .int .i64 cxh, .int .i64 cyl, .int .i64 cyh, .int .i64 wxl, .int .i64 wxh, .int .i64 wyl, .int .i64 wyh, ra]] => match slV ptC sa, slV rdgC ra with
  | some _, some rs => some (slN ((marksOf rs).map heldC.enc))
  | _, _ => none
 | _ => none
theorem p106 : ∀ args v, sp106 args = some v -> v.pur = true := by
 intro args v h
 unfold sp106 at h
 split at h
 ·split at h
  ·cases h; exact slN_pur (enc_pur heldC _)
  ·cases h
 ·cases h
noncomputable def cV : Itr
 | 158 => some (pureFn sp158)
 | _ => none
theorem cV_sound : Sound (dX cV) := dX_sound (fun f g h => by
 unfold cV at h
 split at h
 ·cases h; exact F158
 ·cases h)
set_option maxHeartbeats 1000000 in
theorem F106 : IntrFn Tryz.prog 106 (pureFn sp106) := by
 refine pure_fn (X := dX cV) cV_sound p106 ?_
 intro args v h
 unfold sp106 at h
 split at h
 ·rename_i sa cxl cxh cyl cyh wxl wxh wyl wyh ra
  split at h
  ·rename_i st rs hl hr
   cases h
   have hlen := sl_len hr
   have hout := sl_out hr
   have hmax := sl_max hr
   have hout2 := sl_out hl
   clear hl
   refine ClR.walk (c := _) rfl Tryz.func106 rfl (by kernel_rfl) rfl isRet_fail ?_
   simp only [entryEnv, Nat.reduceAdd]
   repeat' (first | refine goS ?_ | refine go2 (fun hh => ?_) (fun hh => ?_) | fail)
   refine W.loopN rs.length (fun k F => ∃ e lm hp u, F = Fr.mk 106 false e lm hp [] none /\ Blt hp u 5 ((marksOf (rs.take k)).map heldC.enc) /\ lm.get 1 = some (0, [sa, .int .i64 cxl, .int .i64 cxh, .int .i64 cyl, .int .i64 cyh, .int .i64 wxl, .int .i64 wxh, .int .i64 wyl, .int .i64 wyh, ra]) /\ e.get 1 = some (.lptr 1 0 0) /\ e.get 3 = some u /\ e.get 4 = some (.int .i64 ↑k) /\ k <= rs.length) ?_ ?_
   ·refine ⟨_, _, _, _, rfl, Blt.nil, ?_, ?_, ?_, ?_, ?_⟩ <;> first | exact Z2 | simp [go_sem, *]
   rintro k F ⟨e, lm, hp, u, rfl, hB, hl1, h1, h3, h4, hk⟩
   have hbo := hB.out
   by_cases hlt : k < rs.length
   ·obtain ⟨p, hp'⟩ := get_some hlt
    have hix := rdg_idx hr hp'
    have hd : decide ((k : Int) < (rs.length : Int)) = true := by simpa using hlt
    have hw := wrap_succ hlt hmax
    have hnx : marksOf (rs.take (k + 1)) = marksOf (rs.take k) ++ [⟨p.b, ⟨w64 (p.x - p.err), w64 (p.x + p.err)⟩, ⟨w64 (p.y - p.err), w64 (p.y + p.err)⟩⟩] := by rw [take_next hp']; simp [marksOf]
    have hll : ((marksOf (rs.take k)).map heldC.enc).length + 1 <= most := by
     simp only [marksOf, List.length_map, List.length_take]; unfold most; unfold maxL at hmax; omega
    have HX := Lib.hid hnx
    clear hr hp' hnx
    repeat' (first | (apply WO1.append (t := 156) (u := 156) (e := 181) (e' := 181) (sz := 5) (tl := []); (focus assumption); exact Z1; exact rfl; exact Z2; exact Z2; exact Z2; (focus (exact ty_row156)); exact Z1; (focus (intro v hv; simp at hv; rcases hv with rfl | rfl <;> rfl)); (focus (simp only [List.length_cons, List.length_nil]; exact hll)); (focus (simp)); (intro v' h' hB' ho' hK'; simp only [pM, pN])) | refine go1 ?_ | refine go2 (fun hh => ?_) (fun hh => ?_) | fail)
    refine ⟨hlt, _, _, _, v', rfl, ?_, ?_, ?_, ?_, ?_, by omega⟩
    ·rw [HX.out]; simpa [heldC, w64] using hB'
    all_goals exact Z2
   ·have hd : decide ((k : Int) < (rs.length : Int)) = false := by simpa using hlt
    have hkl : k = rs.length := by omega
    rw [hkl, List.take_length] at hB
    obtain ⟨h', hz, hz2, hz1⟩ := hB.freeze
    clear hkl hr
    repeat' (first | refine goS ?_ | refine go2 (fun hh => ?_) (fun hh => ?_) | fail)
    all_goals (simp only [resV_def (X := dX cV) Tryz.func106, Tryz.results106]; first | exact J5 | refine J6 ?_)
  ·cases h
 ·cases h
theorem K106 {X : Ctx} (hX : X.intr 106 = some (pureFn sp106)) (sa ra : AV) (st : List Pt) (rs : List Rdg) (cx cy wx wy : Sp) (hl : slV ptC sa = some st) (hr : slV rdgC ra = some rs) (h : Heap) :
  Cl X 106 [.agg [sa, .int .i64 cx.lo, .int .i64 cx.hi, .int .i64 cy.lo, .int .i64 cy.hi, .int .i64 wx.lo, .int .i64 wx.hi, .int .i64 wy.lo, .int .i64 wy.hi, ra]] h (.ret (slN ((marksOf rs).map heldC.enc)) h none) :=
 Cl.intr hX (by simp [pureFn, AV.pur, AV.purL, sl_pur hl, sl_pur hr, sp106, hl, hr])
def h159 (args : List AV) (h : Heap) : Option AV :=
 match args with
 | [.agg [.int .i64 cl, .int .i64 ch], .agg [.int .i64 wl, .int .i64 wh], .row id off len] => (match h.get id with
  | some (.rw sz el) => if (Nat.beq sz 2 && Nat.ble (off + len) el.length && AV.purL el) = true then (match decL spC ((el.drop off).take len) with
   | some l => if l.length = 13 then some (axisV ⟨⟨cl, ch⟩, ⟨wl, wh⟩, []⟩ l) else none
   | none => none) else none
  | _ => none)
 | _ => none
theorem lookS_pur (t : List Sp) : (lookS t).pur = true := by
 unfold lookS
 split
 ·rfl
 ·have := slN_pur (enc_pur spC t)
  simp [AV.pur, AV.purL, this]
theorem axisV_pur (ax : Ax) (l : List Sp) : (axisV ax l).pur = true := lookS_pur _
attribute [local irreducible] axisV
theorem hp159 : ∀ args h v, h159 args h = some v -> v.pur = true := by
 intro args h v e
 unfold h159 at e
 split at e
 ·split at e
  ·split at e
   ·split at e
    ·split at e
     ·have e := Option.some.inj e
      rw [<- e]
      exact axisV_pur _ _
     ·cases e
    ·cases e
   ·cases e
  ·cases e
 ·cases e
theorem H159 : IntrFn Tryz.prog 159 (onHeap h159) := by
 refine row_intr (X := dX cV) cV_sound hp159 ?_
 intro args h v hfr e
 unfold h159 at e
 split at e
 ·rename_i cl ch wl wh id off len
  split at e
  ·rename_i sz el hg
   split at e
   ·rename_i hc
    simp only [Bool.and_eq_true, Nat.ble_eq] at hc
    obtain ⟨⟨hz, hle⟩, hpu⟩ := hc
    have hz := Nat.eq_of_beq_eq_true hz
    subst hz
    split at e
    ·rename_i l hdl
     split at e
     ·rename_i h13
      have e := Option.some.inj e
      subst e
      have hid := hfr id _ hg
      have hget : ∀ id' b, ((Mp.nil : Mp Blk).set id (.rw 2 el)).get id' = some b -> id' = id /\ b = .rw 2 el := by
       intro id' b e
       by_cases hh : (id == id') = true
       ·have := beq_iff_eq.1 hh
        subst this
        rw [get_set_same] at e
        exact ⟨rfl, (Option.some.inj e).symm⟩
       ·rw [get_set_lit _ _ _ _ (by simpa using hh)] at e
        simp at e
      refine ⟨(Mp.nil : Mp Blk).set id (.rw 2 el), fun id' b e => ?_, ?_⟩
      ·obtain ⟨rfl, rfl⟩ := hget id' b e
       exact ⟨hg, 2, el, rfl, purL_mem.1 hpu⟩
      ·have hgm : (Heap.mk h.next ((Mp.nil : Mp Blk).set id (.rw 2 el))).get id = some (.rw 2 el) := get_set_same _ _ _
       have hel : (Heap.mk h.next ((Mp.nil : Mp Blk).set id (.rw 2 el))).elems (.row id off len) = some (l.map spC.enc) := by
        simp only [Heap.elems, hgm]
        rw [if_pos hle, decL_eq spC _ _ hdl]
       have q := C159 cV rfl rfl ⟨⟨cl, ch⟩, ⟨wl, wh⟩, []⟩ l (.row id off len) ⟨h.next, (Mp.nil : Mp Blk).set id (.rw 2 el)⟩ hel rfl h13
       unfold ClR Cl at q
       obtain ⟨r, ⟨k, q1⟩, h', q2, rfl⟩ := q
       exact ⟨_, k, q1 k (Nat.le_refl _), fun id' b e => by
        obtain ⟨rfl, rfl⟩ := hget id' b e
        exact (q2.2 _ hid).trans e⟩
     ·cases e
    ·cases e
   ·cases e
  ·cases e
 ·cases e
theorem K159 {X : Ctx} (hX : X.intr 159 = some (onHeap h159)) (c w : Sp) (l : List Sp) (id : Nat) (h : Heap) (hg : h.get id = some (.rw 2 (l.map spC.enc))) (h13 : l.length = 13) :
  Cl X 159 [.agg [.int .i64 c.lo, .int .i64 c.hi], .agg [.int .i64 w.lo, .int .i64 w.hi], .row id 0 13] h (.ret (axisV ⟨c, w, []⟩ l) h none) :=
 Cl.intr hX (by
  have h1 : Nat.ble (0 + 13) (l.map spC.enc).length = true := by rw [Nat.ble_eq]; simp [h13]
  have h2 : AV.purL (l.map spC.enc) = true := purL_mem.2 (enc_pur spC l)
  have h3 : ((l.map spC.enc).drop 0).take 13 = l.map spC.enc := by rw [List.drop_zero, List.take_of_length_le (by simp [h13])]
  have h0 : Nat.beq 2 2 = true := rfl
  simp only [onHeap, h159, hg, h0, h1, h2, h3, decL_map, Bool.and_self, if_true, h13])
end Go.AM
namespace Go.AM
open Go Go.Proofs
variable [Keep]
attribute [local irreducible] W WO WO1 WD WQ WT thenQ blockQ endR isRet retK Cl ClR
def Sep (a b : AV) : Prop := ∀ id o n o' n', a = .row id o n -> b = .row id o' n' -> False
theorem Blt.apart {h h' : Heap} {a b : AV} {sz : Nat} {l : List AV} (q : Blt h b sz l) (k : Keeps h h' a) (s : Sep a b) : Blt h' b sz l := by
 rcases q with q | ⟨id, h1, h2, h3, h4⟩
 ·exact .inl q
 ·refine .inr ⟨id, h1, ?_, Nat.lt_of_lt_of_le h3 k.1, h4⟩
  rw [k.2 id h3 (fun off n e => s id off n 0 l.length e h1)]
  exact h2
section
variable {X : Ctx} {ops : Array Oper} {K P : AV -> Fr -> Prop} {F : Fr} {d : Option Tmp} {T : TypeId} {p : String} {af : Array Edge}
theorem WO1.appendE {args : Array Operand} {at_ : Array TypeId} {t u e e' : TypeId} {tl : List TypeId} {sz : Nat} {x y : AV} {new l : List AV} (hb : Blt F.hp x sz l) (hargs : F.opvs args.toList = some [x, y]) (ht : at_.toList = t :: u :: tl) (hu : X.P.underlying u = some (.slice e'))
  (hel : elemT X.P t = some e) (hs : szT X.P e = sz) (hrow : rowable X.P e = true) (hy : F.hp.elems y = some new) (hsz : ∀ v ∈ new, v.cells.length = sz) (hlen : l.length + new.length <= most) (hne : new ≠ [])
  (h : ∀ v' h', Blt h' v' sz (l ++ new) -> outV (some v') = some v' -> Keeps F.hp h' x -> v' = .row F.hp.next 0 (l ++ new).length -> K v' (({ F with hp := h' } : Fr).put d v')) : WO1 X ops ⟨d, .call ⟨.builtin .append, args, at_⟩, T, p, af, none⟩ F K P := by
 subst hs
 obtain ⟨v', h', q1, q2, q3, q4⟩ := append_blt hel hrow hsz hb hlen hne
 refine U5 (v := v') (F' := { F with hp := h' }) rfl (fun cl rd => ?_) (h v' h' q2 q2.out q3 q4)
 simp only [efV, Fr.callOp, Fr.builtinE, Fr.appendE, ht, hargs, hu]
 cases y <;> first | (simp only [hy, q1, okO]; done) | simp [Heap.elems] at hy
end
theorem Blt.id_lt {h : Heap} {b : AV} {sz id o n : Nat} {l : List AV} (q : Blt h b sz l) (e : b = .row id o n) : id < h.next := by
 rcases q with ⟨h1, _⟩ | ⟨i, h1, h2, h3, h4⟩
 ·rw [h1] at e; cases e
 ·rw [h1] at e; cases e; exact h3
theorem Sep.symm {a b : AV} (s : Sep a b) : Sep b a := fun id o n o' n' e1 e2 => s id o' n' o n e2 e1
theorem Sep.new {h : Heap} {b : AV} {sz k : Nat} {l : List AV} (q : Blt h b sz l) (hk : h.next <= k) (n : Nat) : Sep (.row k 0 n) b := by
 intro id o m o' m' e1 e2
 cases e1
 have := q.id_lt e2
 omega
theorem Sep.nil (b : AV) : Sep .nilslice b := fun id o n o' n' e _ => by cases e
def ownS (sel : Held -> Sp) : List Held -> List Sp -> List Sp
 | [], o => o
 | m :: r, o => ownS sel r (o.set m.b.toNat (interS (o.getD m.b.toNat ⟨0, 0⟩) (sel m)))
theorem ownS_len (sel : Held -> Sp) : ∀ (ms : List Held) (o : List Sp), (ownS sel ms o).length = o.length := by
 intro ms
 induction ms with
 | nil => intro o; rfl
 | cons m r ih => intro o; simp [ownS, ih]
def wideS : Sp := ⟨-1000, 1000⟩
def initS : List Sp := List.replicate 13 wideS
def blkB (m : Held) : Bool := inB m.b 0 12
def mergeV (a b : AV) : AV := match a, b with
 | .tuple [x, .bool p], .tuple [y, .bool q] => .tuple [x, y, .bool (p && q)]
 | _, _ => .junk
def bothV (cx cy wx wy : Sp) (ms : List Held) : AV := mergeV (axisV ⟨cx, wx, []⟩ (ownS (·.x) ms initS)) (axisV ⟨cy, wy, []⟩ (ownS (·.y) ms initS))
theorem lookS_is (t : List Sp) : ∃ x p, lookS t = .tuple [x, .bool p] /\ x.pur = true /\ outV (some x) = some x /\ (∀ hp : Heap, frz2 hp x = some (x, hp)) /\ isTuple x = false := by
 unfold lookS
 split
 ·exact ⟨_, _, rfl, rfl, rfl, fun _ => rfl, rfl⟩
 ·exact ⟨_, _, rfl, slN_pur (enc_pur spC t), (slN_is _).out, (slN_is _).frz2, (slN_is _).tup⟩
def sp105 : List AV -> Option AV
 | [.agg [sa, .int .i64 cxl, .int .i64 cxh, .int .i64 cyl, .int .i64 cyh, .int .i64 wxl, .int .i64 wxh, .int .i64 wyl, .int .i64 wyh, ra], ma] => match slV ptC sa, slV rdgC ra, slV heldC ma with
  | some _, some _, some ms => if ms.all blkB = true then some (bothV ⟨cxl, cxh⟩ ⟨cyl, cyh⟩ ⟨wxl, wxh⟩ ⟨wyl, wyh⟩ ms) else none
  | _, _, _ => none
 | _ => none
theorem bothV_is (cx cy wx wy : Sp) (ms : List Held) : ∃ x p y q, axisV ⟨cx, wx, []⟩ (ownS (·.x) ms initS) = .tuple [x, .bool p] /\ axisV ⟨cy, wy, []⟩ (ownS (·.y) ms initS) = .tuple [y, .bool q] /\ bothV cx cy wx wy ms = .tuple [x, y, .bool (p && q)] /\
  x.pur = true /\ y.pur = true /\ outV (some x) = some x /\ outV (some y) = some y /\ (∀ hp : Heap, frz2 hp x = some (x, hp)) /\ (∀ hp : Heap, frz2 hp y = some (y, hp)) /\ isTuple x = false /\ isTuple y = false := by
 obtain ⟨x, p, e1, e2, e3, e4, e5⟩ := lookS_is (backS ⟨cx, wx, []⟩ 12 (onR ⟨cx, wx, []⟩ 12 (ownS (·.x) ms initS)))
 obtain ⟨y, q, f1, f2, f3, f4, f5⟩ := lookS_is (backS ⟨cy, wy, []⟩ 12 (onR ⟨cy, wy, []⟩ 12 (ownS (·.y) ms initS)))
 refine ⟨x, p, y, q, e1, f1, ?_, e2, f2, e3, f3, e4, f4, e5, f5⟩
 unfold bothV axisV
 rw [e1, f1]
 rfl
attribute [local irreducible] axisV bothV
theorem p105 : ∀ args v, sp105 args = some v -> v.pur = true := by
 intro args v h
 unfold sp105 at h
 split at h
 ·split at h
  ·split at h
   ·rename_i ms _ _
    have h := Option.some.inj h
    obtain ⟨x, p, y, q, _, _, e, h1, h2, _⟩ := bothV_is ⟨_, _⟩ ⟨_, _⟩ ⟨_, _⟩ ⟨_, _⟩ _
    rw [<- h, e]
    simp [AV.pur, AV.purL, h1, h2]
   ·cases h
  ·cases h
 ·cases h
noncomputable def cW : Itr
 | 158 => some (pureFn sp158)
 | 159 => some (onHeap h159)
 | _ => none
theorem cW_sound : Sound (dX cW) := dX_sound (fun f g h => by
 unfold cW at h
 split at h
 ·cases h; exact F158
 ·cases h; exact H159
 ·cases h)
theorem mark_idx {a : AV} {l : List Held} (h : slV heldC a = some l) {k : Nat} {p : Held} (hp : l[k]? = some p) (H : Heap) : indexAddrV Tryz.prog H 156 a (.int .i64 ↑k) = some (.vptr [.int .i64 p.b, .int .i64 p.x.lo, .int .i64 p.x.hi, .int .i64 p.y.lo, .int .i64 p.y.hi]) :=
 (slV_is h).1.idx (x := heldC.enc p) Tryz.underlying156 ty_lay181 (by simp [hp]) rfl
end Go.AM
namespace Go.AM
open Go Go.Proofs
variable [Keep]
attribute [local irreducible] W WO WO1 WD WQ WT thenQ blockQ endR isRet retK Cl ClR
attribute [local irreducible] axisV bothV
theorem rep_next (k : Nat) : (List.replicate k wideS).map spC.enc ++ [.agg [.int .i64 (-1000), .int .i64 1000]] = (List.replicate (k + 1) wideS).map spC.enc := by
 rw [List.replicate_succ']
 simp [spC, wideS]
set_option maxHeartbeats 4000000 in
theorem F105 : IntrFn Tryz.prog 105 (pureFn sp105) := by
 refine pure_fn (X := dX cW) cW_sound p105 ?_
 intro args v h
 unfold sp105 at h
 split at h
 ·rename_i sa cxl cxh cyl cyh wxl wxh wyl wyh ra ma
  split at h
  ·rename_i st rs ms hl hr hm
   split at h
   ·rename_i hbl
    have h := Option.some.inj h
    subst h
    have hlen := sl_len hm
    have hout := sl_out hm
    have hmax := sl_max hm
    have hout2 := sl_out hl
    have hout3 := sl_out hr
    obtain ⟨x, p, y, q, hax, hay, hv, _, _, hox, hoy, hfx, hfy, htx, hty⟩ := bothV_is ⟨cxl, cxh⟩ ⟨cyl, cyh⟩ ⟨wxl, wxh⟩ ⟨wyl, wyh⟩ ms
    rw [hv]
    have HAX := Lib.hid hax
    have HAY := Lib.hid hay
    have HBL := Lib.hid hbl
    clear hv hl hr hbl hax hay
    refine ClR.walk (c := _) rfl Tryz.func105 rfl (by kernel_rfl) rfl isRet_fail ?_
    simp only [entryEnv, Nat.reduceAdd]
    repeat' (first | refine goS ?_ | refine go2 (fun hh => ?_) (fun hh => ?_) | fail)
    refine W.loopN 13 (fun k F => ∃ e lm hp ux uy, F = Fr.mk 105 false e lm hp [] none /\ Blt hp ux 2 ((List.replicate k wideS).map spC.enc) /\ Blt hp uy 2 ((List.replicate k wideS).map spC.enc) /\ Sep ux uy /\
     lm.get 2 = some (0, [sa, .int .i64 cxl, .int .i64 cxh, .int .i64 cyl, .int .i64 cyh, .int .i64 wxl, .int .i64 wxh, .int .i64 wyl, .int .i64 wyh, ra]) /\ e.get 2 = some (.lptr 2 0 0) /\ e.get 1 = some ma /\ e.get 7 = some ux /\ e.get 8 = some uy /\ e.get 9 = some (.int .i64 ↑k) /\ k <= 13) ?_ ?_
    ·refine ⟨_, _, _, _, _, rfl, Blt.nil, Blt.nil, Sep.nil _, ?_, ?_, ?_, ?_, ?_, ?_, ?_⟩ <;> first | exact Z2 | simp [go_sem, *]
    rintro k F ⟨e, lm, hp, ux, uy, rfl, hBx, hBy, hSep, hl2, h2, h1, h7, h8, h9, hk⟩
    have hbox := hBx.out
    have hboy := hBy.out
    by_cases hlt : k < 13
    ·have hd : decide ((k : Int) <= 12) = true := by simp; omega
     have hw := wrap_succ hlt (by unfold maxL; omega)
     have hll : ((List.replicate k wideS).map spC.enc).length + 1 <= most := by simp only [List.length_map, List.length_replicate]; unfold most; omega
     repeat' (first | (apply WO1.appendE (t := 146) (u := 146) (e := 48) (e' := 48) (sz := 2) (tl := []) (hb := hBx); exact Z1; exact rfl; exact Z2; exact Z2; exact Z2; (focus (exact ty_row146)); exact Z1; (focus (intro v hv; simp at hv; rcases hv with rfl | rfl <;> rfl)); (focus (simp only [List.length_cons, List.length_nil]; exact hll)); (focus (simp)); (intro vx hx1 hBx1 hox1 hKx1 hEx1; have hBy1 := hBy.apart hKx1 hSep; simp only [pM, pN])) | (apply WO1.appendE (t := 146) (u := 146) (e := 48) (e' := 48) (sz := 2) (tl := []) (hb := hBy1); exact Z1; exact rfl; exact Z2; exact Z2; exact Z2; (focus (exact ty_row146)); exact Z1; (focus (intro v hv; simp at hv; rcases hv with rfl | rfl <;> rfl)); (focus (simp only [List.length_cons, List.length_nil]; exact hll)); (focus (simp)); (intro vy hy1 hBy2 hoy1 hKy1 hEy1; simp only [pM, pN])) | refine go1 ?_ | refine go2 (fun hh => ?_) (fun hh => ?_) | fail)
     refine ⟨hlt, _, _, _, vx, vy, rfl, ?_, ?_, ?_, ?_, ?_, ?_, ?_, ?_, ?_, by omega⟩
     ·rw [<- rep_next]
      refine hBx1.apart hKy1 (Sep.symm ?_)
      rw [hEx1]
      exact Sep.new hBy (Nat.le_refl _) _
     ·rw [<- rep_next]
      exact hBy2
     ·refine Sep.symm ?_
      rw [hEy1]
      exact Sep.new hBx1 (Nat.le_refl _) _
     all_goals exact Z2
    ·have hd : decide ((k : Int) <= 12) = false := by simp; omega
     have hk13 : k = 13 := by omega
     subst hk13
     have hne : (List.replicate 13 wideS).map spC.enc ≠ [] := by simp
     obtain ⟨idx, hux, hgx, hidx⟩ : ∃ id, ux = .row id 0 13 /\ hp.get id = some (.rw 2 (initS.map spC.enc)) /\ id < hp.next := by
      rcases hBx with ⟨_, e⟩ | ⟨id, q1, q2, q3, _⟩
      ·exact absurd e hne
      ·exact ⟨id, by simpa using q1, q2, q3⟩
     obtain ⟨idy, huy, hgy, hidy⟩ : ∃ id, uy = .row id 0 13 /\ hp.get id = some (.rw 2 (initS.map spC.enc)) /\ id < hp.next := by
      rcases hBy with ⟨_, e⟩ | ⟨id, q1, q2, q3, _⟩
      ·exact absurd e hne
      ·exact ⟨id, by simpa using q1, q2, q3⟩
     have hxy : idx ≠ idy := fun e => hSep idx 0 13 0 13 hux (by rw [huy, e])
     have HXY := Lib.hid hxy
     have HGX := Lib.hid hgx
     have HGY := Lib.hid hgy
     subst hux huy
     clear hne hBx hBy hSep hxy hgx hgy hlt hk
     repeat' (first | refine goS ?_ | refine go2 (fun hh => ?_) (fun hh => ?_) | fail)
     refine W.loopN ms.length (fun j F => ∃ e lm hp cx cy, F = Fr.mk 105 false e lm hp [] none /\ ownS (·.x) (ms.drop j) cx = ownS (·.x) ms initS /\ ownS (·.y) (ms.drop j) cy = ownS (·.y) ms initS /\ cx.length = 13 /\ cy.length = 13 /\
      hp.get idx = some (.rw 2 (cx.map spC.enc)) /\ hp.get idy = some (.rw 2 (cy.map spC.enc)) /\ lm.get 2 = some (0, [sa, .int .i64 cxl, .int .i64 cxh, .int .i64 cyl, .int .i64 cyh, .int .i64 wxl, .int .i64 wxh, .int .i64 wyl, .int .i64 wyh, ra]) /\
      e.get 2 = some (.lptr 2 0 0) /\ e.get 1 = some ma /\ e.get 7 = some (.row idx 0 13) /\ e.get 8 = some (.row idy 0 13) /\ e.get 10 = some (.int .i64 ↑j) /\ j <= ms.length) ?_ ?_
     ·refine ⟨_, _, _, initS, initS, rfl, rfl, rfl, rfl, rfl, HGX.out, HGY.out, ?_, ?_, ?_, ?_, ?_, ?_, ?_⟩ <;> first | exact Z2 | simp [go_sem, *]
     clear hl2 h2 h1 h7 h8 h9 hd hbox hboy HGX HGY hidx hidy
     rintro j F ⟨e, lm, hp, cx, cy, rfl, hcx, hcy, hnx, hny, hgx, hgy, hl2, h2, h1, h7, h8, h10, hj⟩
     have HCX := Lib.hid hcx
     have HCY := Lib.hid hcy
     have HNX := Lib.hid hnx
     have HNY := Lib.hid hny
     clear hcx hcy hnx hny
     by_cases hjt : j < ms.length
     ·obtain ⟨m, hm'⟩ := get_some hjt
      have hix := mark_idx hm hm'
      have hdr : ms.drop j = m :: ms.drop (j + 1) := by
       rw [List.drop_eq_getElem_cons hjt]
       rw [List.getElem?_eq_getElem hjt] at hm'
       rw [Option.some.inj hm']
      have hmb : blkB m = true := List.all_eq_true.1 HBL.out m (List.mem_of_getElem? hm')
      simp only [blkB, inB, Bool.and_eq_true, decide_eq_true_eq] at hmb
      obtain ⟨n, hn⟩ : ∃ n : Nat, m.b = n := ⟨m.b.toNat, by omega⟩
      have hn13 : n < 13 := by omega
      obtain ⟨px, hpx⟩ := get_some (show n < cx.length by rw [HNX.out]; omega)
      obtain ⟨py, hpy⟩ := get_some (show n < cy.length by rw [HNY.out]; omega)
      have hrx := row_at hpx
      have hry := row_at hpy
      have hixx := row_idx hn13 hgx
      have hixy := row_idx hn13 hgy
      have hgy' : ∀ b, (hp.put idx b).get idy = some (.rw 2 (cy.map spC.enc)) := fun b => by
       have h := HXY.out
       rw [<- hgy]
       simp [Heap.get, Heap.put, h]
      have hixy' : ∀ b, indexAddrV Tryz.prog (hp.put idx b) 146 (.row idy 0 13) (.int .i64 ↑n) = some (.eptr idy 2 n 0) := fun b => row_idx hn13 (hgy' b)
      have hd : decide ((j : Int) < (ms.length : Int)) = true := by simpa using hjt
      have hw := wrap_succ hjt hmax
      have hnx : ownS (·.x) (ms.drop (j + 1)) (cx.set n (interS px m.x)) = ownS (·.x) ms initS := by
       rw [<- HCX.out, hdr]
       have : m.b.toNat = n := by omega
       simp only [ownS, this, getD_of hpx]
      have hny : ownS (·.y) (ms.drop (j + 1)) (cy.set n (interS py m.y)) = ownS (·.y) ms initS := by
       rw [<- HCY.out, hdr]
       have : m.b.toNat = n := by omega
       simp only [ownS, this, getD_of hpy]
      have HX := Lib.hid hnx
      have HY := Lib.hid hny
      rw [hn] at hix
      clear hm hm' hdr hmb hpx hpy hnx hny hn
      repeat' (first | (apply W.drawQ (id := 10) (l1 := [0, 1, 2, 3, 4, 5, 6, 7, 8, 9, 10, 11, 12, 13, 14, 15, 16, 17, 18, 19, 20, 21, 22, 23, 24]) (l2 := [25, 26, 27]); kernel_rfl; kernel_rfl; kernel_rfl; exact Z4) | refine go1 ?_ | (apply U6; exact Z1; exact Z1; (focus (simp only [List.nil_append, List.append_nil]; first | exact K158 rfl _ _ _ _ _)); simp only [pM, pN, rR, rP]) | refine go2 (fun hh => ?_) (fun hh => ?_) | fail)
      refine ⟨hjt, _, _, _, cx.set n (interS px m.x), cy.set n (interS py m.y), rfl, HX.out, HY.out, ?_, ?_, ?_, ?_, ?_, ?_, ?_, ?_, ?_, ?_, by omega⟩
      ·rw [List.length_set]; exact HNX.out
      ·rw [List.length_set]; exact HNY.out
      ·have h := HXY.out
       simp [Heap.get, Heap.put, List.map_set, spC, asElem, isAggV, interS, h, Ne.symm h]
      ·have h := HXY.out
       simp [Heap.get, Heap.put, List.map_set, spC, asElem, isAggV, interS, h, Ne.symm h]
      all_goals exact Z2
     ·have hd : decide ((j : Int) < (ms.length : Int)) = false := by simpa using hjt
      have hjl : j = ms.length := by omega
      have hcx : cx = ownS (·.x) ms initS := by
       have := HCX.out
       rw [hjl, List.drop_length] at this
       exact this
      have hcy : cy = ownS (·.y) ms initS := by
       have := HCY.out
       rw [hjl, List.drop_length] at this
       exact this
      have hX : ∀ H : Heap, H.get idx = some (.rw 2 (cx.map spC.enc)) -> Cl (dX cW) 159 [.agg [.int .i64 cxl, .int .i64 cxh], .agg [.int .i64 wxl, .int .i64 wxh], .row idx 0 13] H (.ret (.tuple [x, .bool p]) H none) := fun H hg => by
       have := K159 (X := dX cW) rfl ⟨cxl, cxh⟩ ⟨wxl, wxh⟩ cx idx H hg HNX.out
       rw [hcx, HAX.out] at this
       exact this
      have hY : ∀ H : Heap, H.get idy = some (.rw 2 (cy.map spC.enc)) -> Cl (dX cW) 159 [.agg [.int .i64 cyl, .int .i64 cyh], .agg [.int .i64 wyl, .int .i64 wyh], .row idy 0 13] H (.ret (.tuple [y, .bool q]) H none) := fun H hg => by
       have := K159 (X := dX cW) rfl ⟨cyl, cyh⟩ ⟨wyl, wyh⟩ cy idy H hg HNY.out
       rw [hcy, HAY.out] at this
       exact this
      have HX := Lib.hid hX
      have HY := Lib.hid hY
      clear hX hY hcx hcy hjl hm
      repeat' (first | refine goS ?_ | (apply U6; exact Z1; exact Z1; (focus (simp only [List.nil_append, List.append_nil]; first | exact HX.out _ (by simp only [go_sem, *, Nat.reduceLT, Int.reduceEq, Int.reduceBEq, Int.reduceLE, Int.reduceLT, Nat.reduceAdd, Nat.reduceBEq, Nat.reduceEqDiff, reduceIte, Nat.reduceLeDiff, Nat.reduceMul, Nat.reduceSub, reduceCtorEq]) | exact HY.out _ (by simp only [go_sem, *, Nat.reduceLT, Int.reduceEq, Int.reduceBEq, Int.reduceLE, Int.reduceLT, Nat.reduceAdd, Nat.reduceBEq, Nat.reduceEqDiff, reduceIte, Nat.reduceLeDiff, Nat.reduceMul, Nat.reduceSub, reduceCtorEq]))); simp only [pM, pN, rR, rP]) | refine go2 (fun hh => ?_) (fun hh => ?_) | fail)
      all_goals (simp only [resV_def (X := dX cW) Tryz.func105, Tryz.results105]; first | exact J5 | refine J6 ?_)
      all_goals simp [*]
   ·cases h
  ·cases h
 ·cases h
end Go.AM
namespace Go.AM
open Go
variable [Keep]
theorem interW {x : Sp} (h1 : -1000 <= x.lo) (h2 : x.hi <= 1000) : interS wideS x = x :=
 Sp.ext2 (by rw [interS_lo]; simp only [wideS]; omega) (by rw [interS_hi]; simp only [wideS]; omega)
def limOf (sel : Held -> Sp) (m : Held) : Lim := ⟨m.b, (sel m).lo, (sel m).hi⟩
theorem own_get (sel : Held -> Sp) (k : Nat) : ∀ (ms : List Held) (o : List Sp), k < o.length -> (∀ m ∈ ms, 0 <= m.b) -> (ownS sel ms o).getD k ⟨0, 0⟩ = allS k (ms.map (limOf sel)) (o.getD k ⟨0, 0⟩) := by
 intro ms
 induction ms with
 | nil => intro o _ _; rfl
 | cons m r ih =>
  intro o hk hb
  have hm := hb m (by simp)
  simp only [ownS, List.map_cons, allS]
  rw [ih _ (by simpa using hk) (fun m' h' => hb m' (by simp [h']))]
  by_cases e : m.b = (k : Int)
  ·have hn : m.b.toNat = k := by omega
   have h1 : ((limOf sel m).b == (k : Int)) = true := by simp [limOf, e]
   rw [if_pos h1, hn]
   rw [getD_set_same hk]
   rfl
  ·have hn : m.b.toNat ≠ k := by omega
   have h1 : ¬ ((limOf sel m).b == (k : Int)) = true := by simp [limOf, e]
   rw [if_neg h1]
   rw [getD_set_ne hn]
theorem onR_lim (c w : Sp) (L : List Lim) (l : List Sp) : ∀ n, onR ⟨c, w, []⟩ n l = onR ⟨c, w, L⟩ n l := by
 intro n
 induction n with
 | zero => rfl
 | succ n ih =>
  simp only [onR]
  rw [ih]
  rfl
theorem backS_lim (c w : Sp) (L : List Lim) : ∀ n (l : List Sp), backS ⟨c, w, []⟩ n l = backS ⟨c, w, L⟩ n l := by
 intro n
 induction n with
 | zero => intro l; rfl
 | succ n ih =>
  intro l
  simp only [backS]
  rw [ih]
  rfl
theorem on_own (ax : Ax) (own : List Sp) (h13 : own.length = 13) (hown : ∀ k, k < 13 -> own.getD k ⟨0, 0⟩ = allS k ax.limits wideS) (hc : -1000 <= ax.chuck.lo /\ ax.chuck.hi <= 1000)
  (hn : ∀ k, k < 12 -> -1000 <= (nxtS ax (onS ax k)).lo /\ (nxtS ax (onS ax k)).hi <= 1000) : ∀ n, n <= 12 -> (∀ j, j <= n -> (onR ax n own).getD j ⟨0, 0⟩ = onS ax j) /\ (∀ j, n < j -> (onR ax n own).getD j ⟨0, 0⟩ = own.getD j ⟨0, 0⟩) := by
 intro n
 induction n with
 | zero =>
  intro _
  refine ⟨fun j hj => ?_, fun j hj => ?_⟩
  ·have : j = 0 := by omega
   subst this
   simp only [onR]
   rw [getD_set_same (by omega), hown 0 (by omega), allS_inter, interW hc.1 hc.2]
   rfl
  ·simp only [onR]
   rw [getD_set_ne (by omega)]
 | succ n ih =>
  intro hn12
  obtain ⟨h1, h2⟩ := ih (by omega)
  refine ⟨fun j hj => ?_, fun j hj => ?_⟩
  ·by_cases e : j = n + 1
   ·subst e
    have hl : (onR ax n own).length = 13 := by rw [onR_len, h13]
    have : (onR ax (n + 1) own).getD (n + 1) ⟨0, 0⟩ = interS ((onR ax n own).getD (n + 1) ⟨0, 0⟩) (nxtS ax ((onR ax n own).getD n ⟨0, 0⟩)) := by
     simp only [onR]
     rw [getD_set_same (by omega)]
    rw [this, h2 (n + 1) (by omega), h1 n (Nat.le_refl _), hown (n + 1) (by omega), allS_inter]
    obtain ⟨b1, b2⟩ := hn n (by omega)
    rw [interW b1 b2]
    rfl
   ·have : (onR ax (n + 1) own).getD j ⟨0, 0⟩ = (onR ax n own).getD j ⟨0, 0⟩ := by
     simp only [onR]
     rw [getD_set_ne (fun e' => e e'.symm)]
    rw [this, h1 j (by omega)]
  ·have : (onR ax (n + 1) own).getD j ⟨0, 0⟩ = (onR ax n own).getD j ⟨0, 0⟩ := by
    simp only [onR]
    rw [getD_set_ne (by omega)]
   rw [this, h2 j (by omega)]
def axO : Option (List Sp) -> AV
 | none => .tuple [.nilslice, .bool false]
 | some t => .tuple [slN (t.map spC.enc), .bool true]
structure Good (c w : Sp) (L : List Lim) : Prop where
 c1 : -12 <= c.lo
 c2 : c.lo <= c.hi
 c3 : c.hi <= 12
 w1 : -3 <= w.lo
 w2 : w.lo <= w.hi
 w3 : w.hi <= 3
 l : ∀ m ∈ L, -104 <= m.lo /\ m.lo <= 104 /\ -104 <= m.hi /\ m.hi <= 104
theorem allS_bd (b A B : Int) (hB : 104 <= B) (hA : A <= 104) : ∀ (L : List Lim) (s : Sp), (∀ m ∈ L, -104 <= m.lo /\ m.lo <= 104 /\ -104 <= m.hi /\ m.hi <= 104) -> A <= s.lo /\ s.lo <= B /\ -B <= s.hi /\ s.hi <= -A ->
  A <= (allS b L s).lo /\ (allS b L s).lo <= B /\ -B <= (allS b L s).hi /\ (allS b L s).hi <= -A := by
 intro L
 induction L with
 | nil => intro s _ h; exact h
 | cons m r ih =>
  intro s hL h
  simp only [allS]
  split
  ·refine ih _ (fun m' h' => hL m' (by simp [h'])) ?_
   have := hL m (by simp)
   simp only [interS_lo, interS_hi, Lim.sp]
   omega
  ·exact ih _ (fun m' h' => hL m' (by simp [h'])) h
theorem nxt_small {c w : Sp} {L : List Lim} (g : Good c w L) {s : Sp} {A B : Int} (hA : -1000 <= A) (hB : B <= 1000) (h : A <= s.lo /\ s.lo <= B /\ -B <= s.hi /\ s.hi <= -A) :
  (nxtS ⟨c, w, L⟩ s).lo = s.lo + w.lo /\ (nxtS ⟨c, w, L⟩ s).hi = s.hi + w.hi := by
 have g1 := g.w1
 have g2 := g.w2
 have g3 := g.w3
 show w64 (s.lo + w.lo) = _ /\ w64 (s.hi + w.hi) = _
 exact ⟨wrap_small (by omega) (by omega), wrap_small (by omega) (by omega)⟩
theorem on_bd {c w : Sp} {L : List Lim} (g : Good c w L) : ∀ k : Nat, k <= 13 -> -12 - 3 * (k : Int) <= (onS ⟨c, w, L⟩ k).lo /\ (onS ⟨c, w, L⟩ k).lo <= 104 + 3 * (k : Int) /\ -(104 + 3 * (k : Int)) <= (onS ⟨c, w, L⟩ k).hi /\ (onS ⟨c, w, L⟩ k).hi <= -(-12 - 3 * (k : Int)) := by
 intro k
 induction k with
 | zero =>
  intro _
  have := g.c1
  have := g.c2
  have := g.c3
  exact allS_bd _ _ _ (by omega) (by omega) L c g.l (by omega)
 | succ k ih =>
  intro hk
  have h := ih (by omega)
  obtain ⟨e1, e2⟩ := nxt_small g (by omega) (by omega) h
  have := g.w1
  have := g.w2
  have := g.w3
  refine allS_bd _ _ _ (by omega) (by omega) L (nxtS ⟨c, w, L⟩ (onS ⟨c, w, L⟩ k)) g.l ?_
  rw [e1, e2]
  omega
theorem axis_ref {c w : Sp} {L : List Lim} (g : Good c w L) (own : List Sp) (h13 : own.length = 13) (hown : ∀ k, k < 13 -> own.getD k ⟨0, 0⟩ = allS k L wideS) : axisV ⟨c, w, []⟩ own = axO (boundsS ⟨c, w, L⟩) := by
 have hc1 := g.c1
 have hc2 := g.c2
 have hc3 := g.c3
 have hw2 := g.w2
 have hw1 := g.w1
 have hw3 := g.w3
 have hnx : ∀ k : Nat, k < 12 -> (nxtS ⟨c, w, L⟩ (onS ⟨c, w, L⟩ k)).lo = (onS ⟨c, w, L⟩ k).lo + w.lo /\ (nxtS ⟨c, w, L⟩ (onS ⟨c, w, L⟩ k)).hi = (onS ⟨c, w, L⟩ k).hi + w.hi :=
  fun k hk => nxt_small g (by omega) (by omega) (on_bd g k (by omega))
 have hb := bounds_ref ⟨c, w, L⟩ (by simp [empS]; omega) (fun k hk he => by
  obtain ⟨e1, e2⟩ := hnx k hk
  simp only [empS, decide_eq_false_iff_not] at *
  rw [e1, e2]
  omega)
 obtain ⟨o1, _⟩ := on_own ⟨c, w, L⟩ own h13 hown (show -1000 <= c.lo /\ c.hi <= 1000 by omega) (fun k hk => by
  obtain ⟨e1, e2⟩ := hnx k hk
  have := on_bd g k (by omega)
  rw [e1, e2]
  omega) 12 (Nat.le_refl _)
 have hlist : onR ⟨c, w, L⟩ 12 own = (List.range 13).map (onS ⟨c, w, L⟩) := by
  apply List.ext_getElem
  ·rw [onR_len, h13]; simp
  ·intro j h1 h2
   have hj : j < 13 := by simpa using h2
   have := o1 j (by omega)
   simp only [List.getD, List.getElem?_eq_getElem h1, Option.getD_some] at this
   rw [this]
   simp
 rw [hb]
 unfold axisV refS lookS
 rw [onR_lim c w L, backS_lim c w L, hlist]
 split <;> rfl
theorem lims_155 (rs : List Rdg) : (marksOf rs).map (limOf (·.x)) = lims155 rs := by simp [marksOf, lims155, limOf]
theorem lims_156 (rs : List Rdg) : (marksOf rs).map (limOf (·.y)) = lims156 rs := by simp [marksOf, lims156, limOf]
theorem span_of {lo hi a b wide : Int} (h : spanB lo hi a b wide = true) : a <= lo /\ lo <= hi /\ hi <= b := by
 simp only [spanB, Bool.and_eq_true, decide_eq_true_eq] at h
 omega
theorem rdg_of {p : Rdg} (h : okRdg p = true) : 0 <= p.b /\ p.b <= 12 /\ -80 <= p.x /\ p.x <= 80 /\ -80 <= p.y /\ p.y <= 80 /\ 0 <= p.err /\ p.err <= 4 := by
 have e : w64 (-80) = -80 := rfl
 simp only [okRdg, okPt, inB, e, Bool.and_eq_true, decide_eq_true_eq] at h
 omega
theorem init_get {k : Nat} (hk : k < 13) : initS.getD k ⟨0, 0⟩ = wideS := by
 unfold initS
 rw [List.getD, List.getElem?_replicate, if_pos hk]
 rfl
section
variable {st : List Pt} {cx cy wx wy : Sp} {rs : List Rdg} (h : machB st cx cy wx wy rs = true)
include h
theorem mach_rdg : ∀ p ∈ rs, okRdg p = true := by
 intro p hp
 simp only [machB, Bool.and_eq_true] at h
 have := h.2
 simp only [Bool.not_eq_true'] at this
 have := List.any_eq_false.1 this p hp
 simpa using this
theorem good_x : Good cx wx (lims155 rs) := by
 have e1 : w64 (-12) = -12 := rfl
 have e2 : w64 (-3) = -3 := rfl
 have hr := mach_rdg h
 simp only [machB, Bool.and_eq_true, e1, e2] at h
 have h1 := span_of h.1.1.1.1.1.2
 have h2 := span_of h.1.1.1.2
 refine ⟨h1.1, h1.2.1, h1.2.2, h2.1, h2.2.1, h2.2.2, fun m hm => ?_⟩
 obtain ⟨p, hp, rfl⟩ := List.mem_map.1 hm
 have := rdg_of (hr p hp)
 have a1 : w64 (p.x - p.err) = p.x - p.err := wrap_small (by omega) (by omega)
 have a2 : w64 (p.x + p.err) = p.x + p.err := wrap_small (by omega) (by omega)
 simp only [a1, a2]
 omega
theorem good_y : Good cy wy (lims156 rs) := by
 have e1 : w64 (-12) = -12 := rfl
 have e2 : w64 (-3) = -3 := rfl
 have hr := mach_rdg h
 simp only [machB, Bool.and_eq_true, e1, e2] at h
 have h1 := span_of h.1.1.1.1.2
 have h2 := span_of h.1.1.2
 refine ⟨h1.1, h1.2.1, h1.2.2, h2.1, h2.2.1, h2.2.2, fun m hm => ?_⟩
 obtain ⟨p, hp, rfl⟩ := List.mem_map.1 hm
 have := rdg_of (hr p hp)
 have a1 : w64 (p.y - p.err) = p.y - p.err := wrap_small (by omega) (by omega)
 have a2 : w64 (p.y + p.err) = p.y + p.err := wrap_small (by omega) (by omega)
 simp only [a1, a2]
 omega
theorem marks_blk : (marksOf rs).all blkB = true := by
 refine List.all_eq_true.2 fun m hm => ?_
 obtain ⟨p, hp, rfl⟩ := List.mem_map.1 hm
 have := rdg_of (mach_rdg h p hp)
 simp [blkB, inB]
 omega
theorem marks_pos : ∀ m ∈ marksOf rs, 0 <= m.b := by
 intro m hm
 obtain ⟨p, hp, rfl⟩ := List.mem_map.1 hm
 exact (rdg_of (mach_rdg h p hp)).1
theorem axisX : axisV ⟨cx, wx, []⟩ (ownS (·.x) (marksOf rs) initS) = axO (boundsS (ax0 cx wx rs [])) := by
 have : ax0 cx wx rs [] = ⟨cx, wx, lims155 rs⟩ := by simp [ax0]
 rw [this]
 refine axis_ref (good_x h) _ (by rw [ownS_len]; rfl) (fun k hk => ?_)
 rw [own_get _ k _ _ (by exact hk) (marks_pos h), lims_155]
 rw [init_get hk]
theorem axisY : axisV ⟨cy, wy, []⟩ (ownS (·.y) (marksOf rs) initS) = axO (boundsS (ax1 cy wy rs [])) := by
 have : ax1 cy wy rs [] = ⟨cy, wy, lims156 rs⟩ := by simp [ax1]
 rw [this]
 refine axis_ref (good_y h) _ (by rw [ownS_len]; rfl) (fun k hk => ?_)
 rw [own_get _ k _ _ (by exact hk) (marks_pos h), lims_156]
 rw [init_get hk]
end
end Go.AM
namespace Go.AM
open Go Go.Proofs
variable [Keep]
attribute [local irreducible] W WO WO1 WD WQ WT thenQ blockQ endR isRet retK Cl ClR
attribute [local irreducible] axisV bothV boundsS machB
theorem K105 {X : Ctx} (hX : X.intr 105 = some (pureFn sp105)) (sa ra ma : AV) (st : List Pt) (rs : List Rdg) (ms : List Held) (cx cy wx wy : Sp) (hl : slV ptC sa = some st) (hr : slV rdgC ra = some rs) (hm : slV heldC ma = some ms) (hb : ms.all blkB = true) (h : Heap) :
  Cl X 105 [.agg [sa, .int .i64 cx.lo, .int .i64 cx.hi, .int .i64 cy.lo, .int .i64 cy.hi, .int .i64 wx.lo, .int .i64 wx.hi, .int .i64 wy.lo, .int .i64 wy.hi, ra], ma] h (.ret (bothV cx cy wx wy ms) h none) :=
 Cl.intr hX (by simp [pureFn, AV.pur, AV.purL, sl_pur hl, sl_pur hr, sl_pur hm, sp105, hl, hr, hm, hb])
theorem axO_is (o : Option (List Sp)) : ∃ x, axO o = .tuple [x, .bool o.isSome] /\ outV (some x) = some x /\ isTuple x = false /\ ∀ t, o = some t -> t.length = 13 -> x = .vslice (t.map spC.enc) := by
 cases o with
 | none => exact ⟨_, rfl, rfl, rfl, fun t h => by cases h⟩
 | some t =>
  refine ⟨_, rfl, (slN_is _).out, (slN_is _).tup, fun t' h h13 => ?_⟩
  cases h
  cases t with
  | nil => simp at h13
  | cons a r => rfl
theorem bothV_mach {st : List Pt} {cx cy wx wy : Sp} {rs : List Rdg} (h : machB st cx cy wx wy rs = true) : ∃ x y, bothV cx cy wx wy (marksOf rs) = .tuple [x, y, .bool ((boundsS (ax0 cx wx rs [])).isSome && (boundsS (ax1 cy wy rs [])).isSome)] /\
  outV (some x) = some x /\ outV (some y) = some y /\ isTuple x = false /\ isTuple y = false /\ (∀ t, boundsS (ax0 cx wx rs []) = some t -> x = .vslice (t.map spC.enc)) /\ (∀ t, boundsS (ax1 cy wy rs []) = some t -> y = .vslice (t.map spC.enc)) := by
 obtain ⟨x, e1, e2, e3, e4⟩ := axO_is (boundsS (ax0 cx wx rs []))
 obtain ⟨y, f1, f2, f3, f4⟩ := axO_is (boundsS (ax1 cy wy rs []))
 refine ⟨x, y, ?_, e2, f2, e3, f3, fun t ht => e4 t ht (boundsS_len ht), fun t ht => f4 t ht (boundsS_len ht)⟩
 unfold bothV
 rw [axisX h, axisY h, e1, f1]
 rfl
noncomputable def cP1 : Itr
 | 105 => some (pureFn sp105)
 | 106 => some (pureFn sp106)
 | _ => none
theorem cP1_sound : Sound (dX cP1) := dX_sound (fun f g h => by
 unfold cP1 at h
 split at h
 ·cases h; exact F105
 ·cases h; exact F106
 ·cases h)
def sp104 : List AV -> Option AV
 | [.agg [sa, .int .i64 cxl, .int .i64 cxh, .int .i64 cyl, .int .i64 cyh, .int .i64 wxl, .int .i64 wxh, .int .i64 wyl, .int .i64 wyh, ra]] => match slV ptC sa, slV rdgC ra with
  | some st, some rs => if machB st ⟨cxl, cxh⟩ ⟨cyl, cyh⟩ ⟨wxl, wxh⟩ ⟨wyl, wyh⟩ rs = true then some (.bool ((boundsS (ax0 ⟨cxl, cxh⟩ ⟨wxl, wxh⟩ rs [])).isSome && (boundsS (ax1 ⟨cyl, cyh⟩ ⟨wyl, wyh⟩ rs [])).isSome)) else none
  | _, _ => none
 | _ => none
theorem p104 : ∀ args v, sp104 args = some v -> v.pur = true := by
 intro args v h
 unfold sp104 at h
 split at h
 ·split at h
  ·split at h
   ·cases h; rfl
   ·cases h
  ·cases h
 ·cases h
theorem slH_marks {rs : List Rdg} {ra : AV} (hr : slV rdgC ra = some rs) : slV heldC (slN ((marksOf rs).map heldC.enc)) = some (marksOf rs) := slV_slN (by simpa [marksOf] using sl_max hr)
set_option maxHeartbeats 1000000 in
theorem F104 : IntrFn Tryz.prog 104 (pureFn sp104) := by
 refine pure_fn (X := dX cP1) cP1_sound p104 ?_
 intro args v h
 unfold sp104 at h
 split at h
 ·rename_i sa cxl cxh cyl cyh wxl wxh wyl wyh ra
  split at h
  ·rename_i st rs hl hr
   split at h
   ·rename_i hok
    cases h
    obtain ⟨x, y, hv, hox, hoy, htx, hty, _, _⟩ := bothV_mach hok
    have hout := sl_out hr
    have hout2 := sl_out hl
    have h106 := fun hp => K106 (X := dX cP1) rfl sa ra st rs ⟨cxl, cxh⟩ ⟨cyl, cyh⟩ ⟨wxl, wxh⟩ ⟨wyl, wyh⟩ hl hr hp
    have hb := fun hp => K105 (X := dX cP1) rfl sa ra _ st rs _ ⟨cxl, cxh⟩ ⟨cyl, cyh⟩ ⟨wxl, wxh⟩ ⟨wyl, wyh⟩ hl hr (slH_marks hr) (marks_blk hok) hp
    rw [hv] at hb
    have hso := (slN_is ((marksOf rs).map heldC.enc)).out
    have hst := (slN_is ((marksOf rs).map heldC.enc)).tup
    generalize slN ((marksOf rs).map heldC.enc) = ma at *
    generalize ((boundsS (ax0 ⟨cxl, cxh⟩ ⟨wxl, wxh⟩ rs [])).isSome && (boundsS (ax1 ⟨cyl, cyh⟩ ⟨wyl, wyh⟩ rs [])).isSome) = b at *
    have H106 := Lib.hid h106
    have HB := Lib.hid hb
    clear h106 hb hv hl hr hok
    refine ClR.walk (c := _) rfl Tryz.func104 rfl (by kernel_rfl) rfl isRet_fail ?_
    simp only [entryEnv, Nat.reduceAdd]
    repeat' (first | (apply W.drawQ (id := 1) (l1 := [0, 1, 2, 3, 4, 5, 6, 7, 8, 9, 10]) (l2 := []); kernel_rfl; kernel_rfl; kernel_rfl; exact Z4) | refine go1 ?_ | (apply U6; exact Z1; exact Z1; (focus (simp only [List.nil_append, List.append_nil]; first | exact HB.out _ | exact H106.out _)); simp only [pM, pN, rR, rP]) | refine go2 (fun hh => ?_) (fun hh => ?_) | fail)
    all_goals (simp only [resV_def (X := dX cP1) Tryz.func104, Tryz.results104]; first | exact J5 | refine J6 ?_)
   ·cases h
  ·cases h
 ·cases h
noncomputable def cP2 : Itr
 | 71 => some (flatFn sp71)
 | 104 => some (pureFn sp104)
 | _ => none
theorem cP2_sound : Sound (dX cP2) := dX_sound (fun f g h => by
 unfold cP2 at h
 split at h
 ·cases h; exact F71
 ·cases h; exact F104
 ·cases h)
def slLen : AV -> Option Nat
 | .nilslice => some 0
 | .vempty => some 0
 | .vslice l => some l.length
 | _ => none
theorem slLen_is {a : AV} {n : Nat} (h : slLen a = some n) : lenS a = some n /\ outV (some a) = some a /\ isTuple a = false := by
 unfold slLen at h
 split at h <;> first | (cases h; exact ⟨rfl, rfl, rfl⟩) | cases h
def sp38 : List AV -> Option AV
 | [.agg [sa, .int .i64 cxl, .int .i64 cxh, .int .i64 cyl, .int .i64 cyh, .int .i64 wxl, .int .i64 wxh, .int .i64 wyl, .int .i64 wyh, ra]] => match slLen sa, slLen ra with
  | some m, some n => some (.bool (decide ((m : Int) <= 6) && decide ((n : Int) <= 6)))
  | _, _ => none
 | _ => none
theorem F38 : IntrFn Tryz.prog 38 (pureFn sp38) := by
 refine pure_fn (X := dX cP2) cP2_sound (fun a v h => by
  unfold sp38 at h
  split at h
  ·split at h
   ·cases h; rfl
   ·cases h
  ·cases h) ?_
 intro args v h
 unfold sp38 at h
 split at h
 ·rename_i sa cxl cxh cyl cyh wxl wxh wyl wyh ra
  split at h
  ·rename_i m n hl hr
   cases h
   obtain ⟨h1, h2, h3⟩ := slLen_is hl
   obtain ⟨g1, g2, g3⟩ := slLen_is hr
   clear hl hr
   refine ClR.walk (c := _) rfl Tryz.func38 rfl (by kernel_rfl) rfl isRet_fail ?_
   simp only [entryEnv, Nat.reduceAdd]
   repeat' (first | refine goS ?_ | refine go2 (fun hh => ?_) (fun hh => ?_) | fail)
   all_goals (simp only [resV_def (X := dX cP2) Tryz.func38, Tryz.results38]; first | exact J5 | refine J6 ?_)
   all_goals simp [*]
  ·cases h
 ·cases h
end Go.AM
namespace Go.AM
open Go Go.Proofs
variable [Keep]
attribute [local irreducible] W WO WO1 WD WQ WT thenQ blockQ endR isRet retK Cl ClR
attribute [local irreducible] boundsS machB
def sp139 : List AV -> Option AV
 | [.int .i64 n, .agg [.int .i64 lo, .int .i64 hi]] => some (.bool (inB n lo hi))
 | _ => none
theorem p139 : ∀ args v, sp139 args = some v -> v.pur = true := by
 intro args v h
 unfold sp139 at h
 split at h
 ·cases h; rfl
 ·cases h
theorem F194 : IntrFn Tryz.prog 194 (pureFn sp139) := by
 refine pure_fn (X := dX cQ) cQ_sound p139 ?_
 intro args v h
 unfold sp139 at h
 split at h
 ·cases h
  refine ClR.walk (c := _) rfl Tryz.func194 rfl (by kernel_rfl) rfl isRet_fail ?_
  simp only [entryEnv, Nat.reduceAdd]
  repeat' (first | refine goS ?_ | (apply U6; exact Z1; exact Z1; (focus (simp only [List.nil_append, List.append_nil]; first | exact K93 rfl _ _ _ _)); simp only [pM, pN, rR, rP]) | refine go2 (fun hh => ?_) (fun hh => ?_) | fail)
  all_goals (simp only [resV_def (X := dX cQ) Tryz.func194, Tryz.results194]; first | exact J5 | refine J6 ?_)
 ·cases h
theorem K194 {X : Ctx} (hX : X.intr 194 = some (pureFn sp139)) (n lo hi : Int) (h : Heap) : Cl X 194 [.int .i64 n, .agg [.int .i64 lo, .int .i64 hi]] h (.ret (.bool (inB n lo hi)) h none) := Cl.intr hX rfl
def sp70 : List AV -> Option AV
 | [.agg [xa, ya]] => match slLen xa, slLen ya with
  | some m, some n => some (.bool (decide ((m : Int) <= 15) && decide ((n : Int) <= 15)))
  | _, _ => none
 | _ => none
theorem F70 : IntrFn Tryz.prog 70 (pureFn sp70) := by
 refine pure_fn (X := dX cQ) cQ_sound (fun a v h => by
  unfold sp70 at h
  split at h
  ·split at h
   ·cases h; rfl
   ·cases h
  ·cases h) ?_
 intro args v h
 unfold sp70 at h
 split at h
 ·rename_i xa ya
  split at h
  ·rename_i m n hl hr
   cases h
   obtain ⟨h1, h2, h3⟩ := slLen_is hl
   obtain ⟨g1, g2, g3⟩ := slLen_is hr
   clear hl hr
   refine ClR.walk (c := _) rfl Tryz.func70 rfl (by kernel_rfl) rfl isRet_fail ?_
   simp only [entryEnv, Nat.reduceAdd]
   repeat' (first | refine goS ?_ | refine go2 (fun hh => ?_) (fun hh => ?_) | fail)
   all_goals (simp only [resV_def (X := dX cQ) Tryz.func70, Tryz.results70]; first | exact J5 | refine J6 ?_)
   all_goals simp [*]
  ·cases h
 ·cases h
def okN (n : Int) : Bool := inB n (-80) 80
def truthB (xs ys : List Int) : Bool := ((xs.length : Int) == 13) && ((ys.length : Int) == 13) && xs.all okN && ys.all okN
theorem truth_no {xs ys : List Int} {k : Nat} {p q : Int} (hp : xs[k]? = some p) (hq : ys[k]? = some q) (h : okN p = false \/ okN q = false) : truthB xs ys = false := by
 have key : ∀ (l : List Int) (n : Int), n ∈ l -> okN n = false -> l.all okN = false := fun l n hn h => by
  rw [Bool.eq_false_iff]
  intro h2
  have := List.all_eq_true.1 h2 n hn
  rw [h] at this
  cases this
 rcases h with h | h
 ·simp [truthB, key xs p (List.mem_of_getElem? hp) h]
 ·simp [truthB, key ys q (List.mem_of_getElem? hq) h]
def sp72 : List AV -> Option AV
 | [.agg [xa, ya]] => match slV intC xa, slV intC ya with
  | some xs, some ys => some (.bool (truthB xs ys))
  | _, _ => none
 | _ => none
theorem p72 : ∀ args v, sp72 args = some v -> v.pur = true := by
 intro args v h
 unfold sp72 at h
 split at h
 ·split at h
  ·cases h; rfl
  ·cases h
 ·cases h
theorem all_next {l : List Int} {k : Nat} {p : Int} (hp : l[k]? = some p) (h : (l.take k).all okN = true) (h2 : okN p = true) : (l.take (k + 1)).all okN = true := by
 rw [take_next hp]
 simp only [List.all_append, h, List.all_cons, h2, List.all_nil, Bool.and_self]
set_option maxHeartbeats 1000000 in
theorem F72 : IntrFn Tryz.prog 72 (pureFn sp72) := by
  refine pure_fn (X := dX cQ) cQ_sound p72 ?_
  intro args v h
  unfold sp72 at h
  split at h
  · rename_i xa ya
    split at h
    · rename_i xs ys hl hr
      have h := Option.some.inj h
      subst h
      have hlen := sl_len hl
      have hout := sl_out hl
      have hmax := sl_max hl
      have hlen2 := sl_len hr
      have hout2 := sl_out hr
      refine ClR.walk (c := _) rfl Tryz.func72 rfl (by kernel_rfl) rfl isRet_fail ?_
      simp only [entryEnv, Nat.reduceAdd]
      repeat' (first | refine goS ?_ | refine go2 (fun hh => ?_) (fun hh => ?_) | fail)
      refine W.loopN xs.length (fun k F => ∃ e lm, F = Fr.mk 72 false e lm emptyHp [] none /\ (xs.take k).all okN = true /\ (ys.take k).all okN = true /\ lm.get 1 = some (0, [xa, ya]) /\ e.get 1 = some (.lptr 1 0 0) /\ e.get 3 = some (.int .i64 ↑k) /\ k <= xs.length /\ k <= ys.length) ?_ ?_
      · refine ⟨_, _, rfl, ?_, ?_, ?_, ?_, ?_, ?_, ?_⟩ <;> first | exact Z2 | simp [go_sem, *]
      rintro k F ⟨e, lm, rfl, hax, hay, hl1, h1, h3, hk, hk2⟩
      have HX := Lib.hid hax
      have HY := Lib.hid hay
      clear hax hay
      by_cases hlt : k < xs.length
      · have hd : decide ((k : Int) < (xs.length : Int)) = true := by simpa using hlt
        by_cases hlt2 : k < ys.length
        · have hd2 : decide ((k : Int) < (ys.length : Int)) = true := by simpa using hlt2
          obtain ⟨p, hp⟩ := get_some hlt
          obtain ⟨q, hq⟩ := get_some hlt2
          have hi1 := int_idx hl hp
          have hi2 := int_idx hr hq
          have hw := wrap_succ hlt hmax
          have HN := Lib.hid (fun h => truth_no hp hq h)
          have HP := Lib.hid (fun h => all_next hp HX.out h)
          have HQ := Lib.hid (fun h => all_next hq HY.out h)
          clear hl hr hp hq
          repeat' (first | refine goS ?_ | (apply U6; exact Z1; exact Z1; (focus (simp only [List.nil_append, List.append_nil]; first | exact K97 rfl _ _ _ _)); simp only [pM, pN, rR, rP]) | refine go2 (fun hh => ?_) (fun hh => ?_) | fail)
          all_goals (try simp only [Bool.not_eq_false', Bool.not_eq_true'] at *)
          all_goals first
            | (refine ⟨hlt, _, _, rfl, ?_, ?_, ?_, ?_, ?_, by omega, by omega⟩
               · exact HP.out (by simp [okN, *])
               · exact HQ.out (by simp [okN, *])
               all_goals exact Z2)
            | ((simp only [resV_def (X := dX cQ) Tryz.func72, Tryz.results72]; first | exact J5 | refine J6 ?_)
               rw [HN.out (by simp [okN, *])])
        · have hd2 : decide ((k : Int) < (ys.length : Int)) = false := by simpa using hlt2
          have hne : truthB xs ys = false := by
            have : ¬ (xs.length = 13 /\ ys.length = 13) := by omega
            by_cases e : xs.length = 13
            · have : ¬ ((ys.length : Int) == 13) = true := by simp; omega
              simp [truthB, this]
            · have : ¬ ((xs.length : Int) == 13) = true := by simp; omega
              simp [truthB, this]
          have hne2 : (((xs.length : Int) == 13) && ((ys.length : Int) == 13)) = false := by
            cases e1 : ((xs.length : Int) == 13) with
            | false => rfl
            | true =>
              cases e2 : ((ys.length : Int) == 13) with
              | false => rfl
              | true => simp at e1 e2; omega
          rw [hne]
          have HNE := Lib.hid hne2
          clear hl hr hne hne2
          repeat' (first | refine goS ?_ | refine go2 (fun hh => ?_) (fun hh => ?_) | fail)
          all_goals (simp only [resV_def (X := dX cQ) Tryz.func72, Tryz.results72]; first | exact J5 | refine J6 ?_)
          all_goals (have := HNE.out; simp_all)
      · have hd : decide ((k : Int) < (xs.length : Int)) = false := by simpa using hlt
        have hkl : k = xs.length := by omega
        have ht : truthB xs ys = (((xs.length : Int) == 13) && ((ys.length : Int) == 13)) := by
          have h1 := HX.out
          have h2 := HY.out
          rw [hkl, List.take_length] at h1
          unfold truthB
          rw [h1]
          cases e1 : ((xs.length : Int) == 13) with
          | false => rfl
          | true =>
            cases e2 : ((ys.length : Int) == 13) with
            | false => rfl
            | true =>
              simp at e1 e2
              rw [List.take_of_length_le (by omega)] at h2
              rw [h2]
              rfl
        rw [ht]
        clear hl hr ht hkl
        repeat' (first | refine goS ?_ | refine go2 (fun hh => ?_) (fun hh => ?_) | fail)
        all_goals (simp only [resV_def (X := dX cQ) Tryz.func72, Tryz.results72]; first | exact J5 | refine J6 ?_)
        all_goals simp [*]
    · cases h
  · cases h
theorem K72 {X : Ctx} (hX : X.intr 72 = some (pureFn sp72)) (xa ya : AV) (xs ys : List Int) (hl : slV intC xa = some xs) (hr : slV intC ya = some ys) (h : Heap) : Cl X 72 [.agg [xa, ya]] h (.ret (.bool (truthB xs ys)) h none) :=
 Cl.intr hX (by simp [pureFn, AV.pur, AV.purL, sl_pur hl, sl_pur hr, sp72, hl, hr])
def movedL (l : List Pt) (x y : Int) : List Pt := l.map fun p => ⟨w64 (p.x + x), w64 (p.y + y)⟩
def sp138 : List AV -> Option AV
 | [a, .agg [.int .i64 x, .int .i64 y]] => (slV ptC a).map fun l => slN ((movedL l x y).map ptC.enc)
 | _ => none
theorem p138 : ∀ args v, sp138 args = some v -> v.pur = true := by
 intro args v h
 unfold sp138 at h
 split at h
 ·simp only [Option.map_eq_some_iff] at h
  obtain ⟨l, _, rfl⟩ := h
  exact slN_pur (enc_pur ptC _)
 ·cases h
set_option maxHeartbeats 1000000 in
theorem F138 : IntrFn Tryz.prog 138 (pureFn sp138) := by
 refine pure_fn (X := dX cQ) cQ_sound p138 ?_
 intro args v h
 unfold sp138 at h
 split at h
 ·rename_i a x y
  simp only [Option.map_eq_some_iff] at h
  obtain ⟨l, hl, rfl⟩ := h
  have hlen := sl_len hl
  have hout := sl_out hl
  have hmax := sl_max hl
  refine ClR.walk (c := _) rfl Tryz.func138 rfl (by kernel_rfl) rfl isRet_fail ?_
  simp only [entryEnv, Nat.reduceAdd]
  repeat' (first | refine goS ?_ | refine go2 (fun hh => ?_) (fun hh => ?_) | fail)
  refine W.loopN l.length (fun k F => ∃ e lm hp u, F = Fr.mk 138 false e lm hp [] none /\ Blt hp u 2 ((movedL (l.take k) x y).map ptC.enc) /\ lm.get 3 = some (0, [.int .i64 x, .int .i64 y]) /\ e.get 3 = some (.lptr 3 0 0) /\ e.get 5 = some u /\ e.get 8 = some a /\ e.get 9 = some (.int .i64 ↑l.length) /\ e.get 10 = some (.int .i64 ↑k) /\ k <= l.length) ?_ ?_
  ·refine ⟨_, _, _, _, rfl, Blt.nil, ?_, ?_, ?_, ?_, ?_, ?_, ?_⟩ <;> first | exact Z2 | simp [go_sem, *]
  rintro k F ⟨e, lm, hp, u, rfl, hB, hl3, h3, h5, h8, h9, h10, hk⟩
  have hbo := hB.out
  by_cases hlt : k < l.length
  ·obtain ⟨p, hp'⟩ := get_some hlt
   have hix := pts_idx hl hp'
   have hd : decide ((k : Int) < (l.length : Int)) = true := by simpa using hlt
   have hw := wrap_succ hlt hmax
   have hnx : movedL (l.take (k + 1)) x y = movedL (l.take k) x y ++ [⟨w64 (p.x + x), w64 (p.y + y)⟩] := by rw [take_next hp']; simp [movedL]
   have hll : ((movedL (l.take k) x y).map ptC.enc).length + 1 <= most := by
    simp only [movedL, List.length_map, List.length_take]; unfold most; unfold maxL at hmax; omega
   have HX := Lib.hid hnx
   clear hl hp' hnx
   repeat' (first | (apply WO1.append (t := 22) (u := 22) (e := 38) (e' := 38) (sz := 2) (tl := []); (focus assumption); exact Z1; exact rfl; exact Z2; exact Z2; exact Z2; (focus (exact ty_row22)); exact Z1; (focus (intro v hv; simp at hv; rcases hv with rfl | rfl <;> rfl)); (focus (simp only [List.length_cons, List.length_nil]; exact hll)); (focus (simp)); (intro v' h' hB' ho' hK'; simp only [pM, pN])) | refine go1 ?_ | refine go2 (fun hh => ?_) (fun hh => ?_) | fail)
   refine ⟨hlt, _, _, _, v', rfl, ?_, ?_, ?_, ?_, ?_, ?_, ?_, by omega⟩
   ·rw [HX.out]; simpa [ptC, w64] using hB'
   all_goals exact Z2
  ·have hd : decide ((k : Int) < (l.length : Int)) = false := by simpa using hlt
   have hkl : k = l.length := by omega
   rw [hkl, List.take_length] at hB
   obtain ⟨h', hz, hz2, hz1⟩ := hB.freeze
   clear hkl hl
   repeat' (first | refine goS ?_ | refine go2 (fun hh => ?_) (fun hh => ?_) | fail)
   all_goals (simp only [resV_def (X := dX cQ) Tryz.func138, Tryz.results138]; first | exact J5 | refine J6 ?_)
 ·cases h
end Go.AM
