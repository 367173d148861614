/-
  A part of the proof: contracts of functions.
-/
import Derived.Test.YtlhcjccaimmhgaaGreatDoorVAI
import Derived.Test.YtlhcjccaimmhgaaGreatDoorVAG
set_option linter.unusedSectionVars false
set_option linter.unusedVariables false
set_option linter.unusedSimpArgs false
set_option maxRecDepth 100000
namespace Go.AM
open Go Go.Proofs
variable [Keep]
attribute [local irreducible] W WO WO1 WD WQ WT thenQ blockQ endR isRet retK Cl ClR
structure Sp where
 lo : Int
 hi : Int
 deriving DecidableEq
def spC : Cd Sp where
 enc p := .agg [.int .i64 p.lo, .int .i64 p.hi]
 dec a := match a with | .agg [.int .i64 x, .int .i64 y] => some ⟨x, y⟩ | _ => none
 de _ := rfl
 ed a x h := by split at h <;> cases h; rfl
 pur _ := rfl
theorem sps_idx {a : AV} {l : List Sp} (h : slV spC a = some l) {k : Nat} {p : Sp} (hp : l[k]? = some p) (H : Heap) : indexAddrV Tryz.prog H 146 a (.int .i64 ↑k) = some (.vptr [.int .i64 p.lo, .int .i64 p.hi]) :=
 (slV_is h).1.idx (x := spC.enc p) Tryz.underlying146 ty_lay48 (by simp [hp]) rfl
def interS (a b : Sp) : Sp := ⟨maxV a.lo b.lo, minV a.hi b.hi⟩
def comR (blank : Int) (s : Sp) (l : List Sp) (h : Heap) : COut :=
 if (l.foldl interS s).lo > (l.foldl interS s).hi then .pan (.iface 223 (.agg [.int .i64 blank])) h none else .ret (.agg [.int .i64 (l.foldl interS s).lo, .int .i64 (l.foldl interS s).hi]) h none
set_option maxHeartbeats 400000 in
theorem C191 (c : Itr) (hc : c 191 = none) (blank : Int) (s : Sp) (a : AV) (l : List Sp) (ha : slV spC a = some l) (h : Heap) :
  Cl (dX c) 191 [.int .i64 blank, .agg [.int .i64 s.lo, .int .i64 s.hi], a] h (comR blank s l h) := by
 refine ClR.cl ?_
 have hlen := sl_len ha
 have hout := sl_out ha
 have hmax := sl_max ha
 have hne : comR blank s l h ≠ .fail := by unfold comR; split <;> (intro e; cases e)
 refine ClR.walk (c := _) hc Tryz.func191 rfl (by kernel_rfl) rfl (fun e => hne e.symm) ?_
 clear hne
 simp only [entryEnv, Nat.reduceAdd]
 repeat' (first | (apply WO1.panic; exact rfl; (focus (intro cl rd; simp only [go_sem, *, Nat.reduceLT, Int.reduceEq, Int.reduceBEq, Int.reduceLE, Int.reduceLT, Nat.reduceAdd, Nat.reduceBEq, Nat.reduceEqDiff, reduceIte, Nat.reduceLeDiff, Nat.reduceMul, Nat.reduceSub, reduceCtorEq, efV, Fr.panicE]; with_reducible rfl)); simp only [tP, bP, eP, true_and]) | refine go1 ?_ | refine go2 (fun hh => ?_) (fun hh => ?_) | fail)
 refine W.loopN l.length (fun k F => ∃ e lm, F = Fr.mk 191 false e lm h [] none /\ lm.get 7 = some (0, [.int .i64 ((l.take k).foldl interS s).lo, .int .i64 ((l.take k).foldl interS s).hi]) /\ lm.get 6 = some (0, [.int .i64 0, .int .i64 0]) /\
  e.get 0 = some (.int .i64 blank) /\ e.get 6 = some (.lptr 6 0 0) /\ e.get 7 = some (.lptr 7 0 0) /\ e.get 11 = some a /\ e.get 12 = some (.int .i64 ↑l.length) /\ e.get 13 = some (.int .i64 ↑k) /\ k <= l.length) ?_ ?_
 ·refine ⟨_, _, rfl, ?_, ?_, ?_, ?_, ?_, ?_, ?_, ?_, ?_⟩ <;> simp [go_sem, *]
 rintro k F ⟨e, lm, rfl, hl7, hl6, h0, h6, h7, h11, h12, h13, hk⟩
 generalize hP : (l.take k).foldl interS s = P at hl7
 have HP := Lib.hid hP
 clear hP
 by_cases hlt : k < l.length
 ·obtain ⟨p, hp⟩ := get_some hlt
  have hix := sps_idx ha hp
  have hd : decide ((k : Int) < (l.length : Int)) = true := by simpa using hlt
  have hw := wrap_succ hlt hmax
  have hnx := take_next hp
  have HN : (l.take (k + 1)).foldl interS s = interS P p := by rw [hnx, List.foldl_append, HP.out]; rfl
  have HNX := Lib.hid HN
  clear ha hp hnx HN
  repeat' (first | (apply WO1.panic; exact rfl; (focus (intro cl rd; simp only [go_sem, *, Nat.reduceLT, Int.reduceEq, Int.reduceBEq, Int.reduceLE, Int.reduceLT, Nat.reduceAdd, Nat.reduceBEq, Nat.reduceEqDiff, reduceIte, Nat.reduceLeDiff, Nat.reduceMul, Nat.reduceSub, reduceCtorEq, efV, Fr.panicE]; with_reducible rfl)); simp only [tP, bP, eP, true_and]) | refine go1 ?_ | refine go2 (fun hh => ?_) (fun hh => ?_) | fail)
  refine ⟨hlt, _, _, rfl, ?_, ?_, ?_, ?_, ?_, ?_, ?_, ?_, by omega⟩
  ·rw [HNX.out]; simp only [interS, go_sem, *, Nat.reduceLT, Int.reduceEq, Int.reduceBEq, Int.reduceLE, Int.reduceLT, Nat.reduceAdd, Nat.reduceBEq, Nat.reduceEqDiff, reduceIte, Nat.reduceLeDiff, Nat.reduceMul, Nat.reduceSub, reduceCtorEq]
  all_goals exact Z2
 ·have hd : decide ((k : Int) < (l.length : Int)) = false := by simpa using hlt
  have hkl : k = l.length := by omega
  have hfo : l.foldl interS s = P := by have := HP.out; rw [hkl, List.take_length] at this; exact this
  have HFO := Lib.hid hfo
  clear hkl hfo ha
  repeat' (first | (apply WO1.panic; exact rfl; (focus (intro cl rd; simp only [go_sem, *, Nat.reduceLT, Int.reduceEq, Int.reduceBEq, Int.reduceLE, Int.reduceLT, Nat.reduceAdd, Nat.reduceBEq, Nat.reduceEqDiff, reduceIte, Nat.reduceLeDiff, Nat.reduceMul, Nat.reduceSub, reduceCtorEq, efV, Fr.panicE]; with_reducible rfl)); simp only [tP, bP, eP, true_and]) | refine go1 ?_ | refine go2 (fun hh => ?_) (fun hh => ?_) | fail)
  all_goals first
   | ((simp only [resV_def (X := dX c) Tryz.func191, Tryz.results191]; first | exact J5 | refine J6 ?_); have hfo := HFO.out; simp only [decide_eq_false_iff_not] at hh; simp [isR, comR, hfo, frzRes, dX_frz, dFrz, hh])
   | (have hfo := HFO.out; simp only [decide_eq_true_eq] at hh; simp [isR, comR, hfo, hh])
end Go.AM
namespace Go.AM
open Go Go.Proofs
variable [Keep]
attribute [local irreducible] W WO WO1 WD WQ WT thenQ blockQ endR isRet retK Cl ClR
structure Lim where
 b : Int
 lo : Int
 hi : Int
def limC : Cd Lim where
 enc p := .agg [.int .i64 p.b, .int .i64 p.lo, .int .i64 p.hi]
 dec a := match a with | .agg [.int .i64 x, .int .i64 y, .int .i64 z] => some ⟨x, y, z⟩ | _ => none
 de _ := rfl
 ed a x h := by split at h <;> cases h; rfl
 pur _ := rfl
structure Ax where
 chuck : Sp
 wear : Sp
 limits : List Lim
def Lim.sp (m : Lim) : Sp := ⟨m.lo, m.hi⟩
def empS (s : Sp) : Bool := decide (s.lo > s.hi)
def limS (b : Int) : List Lim -> Sp -> Option Sp
 | [], s => some s
 | m :: r, s => if m.b == b then (if empS (interS s m.sp) then none else limS b r (interS s m.sp)) else limS b r s
def nxtS (ax : Ax) (p : Sp) : Sp := ⟨w64 (p.lo + ax.wear.lo), w64 (p.hi + ax.wear.hi)⟩
def prvS (ax : Ax) (p : Sp) : Sp := ⟨w64 (p.lo - ax.wear.hi), w64 (p.hi - ax.wear.lo)⟩
def startS (ax : Ax) (out : List Sp) (k : Nat) : Sp := if k = 0 then ax.chuck else nxtS ax (out.getD (k - 1) ⟨0, 0⟩)
def fwdS (ax : Ax) : Nat -> Option (List Sp)
 | 0 => some []
 | k + 1 => match fwdS ax k with
  | none => none
  | some out => match limS k ax.limits (startS ax out k) with
   | none => none
   | some s => some (out ++ [s])
def bwdS (ax : Ax) : Nat -> List Sp -> Option (List Sp)
 | 0, out => some out
 | n + 1, out => if empS (interS (out.getD n ⟨0, 0⟩) (prvS ax (out.getD (n + 1) ⟨0, 0⟩))) then none else bwdS ax n (out.set n (interS (out.getD n ⟨0, 0⟩) (prvS ax (out.getD (n + 1) ⟨0, 0⟩))))
def boundsS (ax : Ax) : Option (List Sp) := match fwdS ax 13 with | none => none | some out => bwdS ax 12 out
theorem fwdS_len (ax : Ax) : ∀ (k : Nat) (out : List Sp), fwdS ax k = some out -> out.length = k := by
 intro k
 induction k with
 | zero => intro out h; simp [fwdS] at h; subst h; rfl
 | succ k ih =>
  intro out h
  simp only [fwdS] at h
  split at h
  ·cases h
  ·rename_i o ho
   split at h
   ·cases h
   ·cases h; simp [ih o ho]
theorem fwdS_stop (ax : Ax) (k : Nat) (h : fwdS ax k = none) : ∀ j, fwdS ax (k + j) = none := by
 intro j
 induction j with
 | zero => exact h
 | succ j ih =>
  show fwdS ax ((k + j) + 1) = none
  simp only [fwdS, ih]
theorem bounds_none (ax : Ax) {k : Nat} {out : List Sp} (hk : k < 13) (ho : fwdS ax k = some out) (hl : limS k ax.limits (startS ax out k) = none) : boundsS ax = none := by
 have : fwdS ax (k + 1) = none := by simp only [fwdS, ho, hl]
 have := fwdS_stop ax _ this (12 - k)
 rw [show k + 1 + (12 - k) = 13 from by omega] at this
 simp only [boundsS, this]
structure RdL (h : Heap) (v : AV) (l : List Lim) : Prop where
 len : lenS v = some l.length
 out : outV (some v) = some v
 max : l.length <= maxL
 one : v.cells = [v]
 tup : isTuple v = false
 get : ∀ (k : Nat) (m : Lim), l[k]? = some m -> ∀ hp : Heap, (∀ id, id < h.next -> hp.get id = h.get id) -> ∃ ptr, indexAddrV Tryz.prog hp 226 v (.int .i64 ↑k) = some ptr /\ ∀ f rnd e lm df up, (Fr.mk f rnd e lm hp df up).mem ptr = some ([.int .i64 m.b, .int .i64 m.lo, .int .i64 m.hi], 0)
def isBnd (ax : Ax) (h : Heap) (r : COut) : Prop := ∃ h', HExt h h' /\ match boundsS ax with
 | some out => r = .ret (slN (out.map spC.enc)) h' none
 | none => ∃ b : Int, r = .pan (.iface 223 (.agg [.int .i64 b])) h' none
theorem isBnd_fail {ax : Ax} {h : Heap} : ¬ isBnd ax h .fail := by
 rintro ⟨h', _, q⟩
 split at q
 ·cases q
 ·obtain ⟨b, e⟩ := q; cases e
theorem isBnd_pan {ax : Ax} {h hp : Heap} {b : Int} (e : boundsS ax = none) (hx : h.next <= hp.next /\ ∀ id, id < h.next -> hp.get id = h.get id) : isBnd ax h (.pan (.iface 223 (.agg [.int .i64 b])) hp none) := ⟨hp, hx, by rw [e]; exact ⟨b, rfl⟩⟩
theorem limS_cons (b : Int) (m : Lim) (r : List Lim) (s : Sp) : limS b (m :: r) s = if m.b == b then (if empS (interS s m.sp) then none else limS b r (interS s m.sp)) else limS b r s := rfl
theorem limS_nil (b : Int) (s : Sp) : limS b [] s = some s := rfl
theorem comR_pan {b : Int} {s p : Sp} {h : Heap} (he : empS (interS s p) = true) : comR b s [p] h = .pan (.iface 223 (.agg [.int .i64 b])) h none := if_pos (by simpa [empS] using he)
theorem comR_ret {b : Int} {s p : Sp} {h : Heap} (he : empS (interS s p) = false) : comR b s [p] h = .ret (.agg [.int .i64 (interS s p).lo, .int .i64 (interS s p).hi]) h none := if_neg (by simpa [empS] using he)
theorem bwdS_succ (ax : Ax) (n : Nat) (out : List Sp) : bwdS ax (n + 1) out = if empS (interS (out.getD n ⟨0, 0⟩) (prvS ax (out.getD (n + 1) ⟨0, 0⟩))) then none else bwdS ax n (out.set n (interS (out.getD n ⟨0, 0⟩) (prvS ax (out.getD (n + 1) ⟨0, 0⟩)))) := rfl
theorem boundsS_def (ax : Ax) : boundsS ax = match fwdS ax 13 with | none => none | some out => bwdS ax 12 out := rfl
theorem isBnd_ret {ax : Ax} {h hp : Heap} {out : List Sp} (e : boundsS ax = some out) (hs : slN (out.map spC.enc) = .vslice (out.map spC.enc)) (hx : h.next <= hp.next /\ ∀ id, id < h.next -> hp.get id = h.get id) : isBnd ax h (.ret (.vslice (out.map spC.enc)) hp none) := ⟨hp, hx, by rw [e]; simp only; rw [hs]⟩
attribute [local irreducible] isBnd boundsS fwdS limS
set_option maxHeartbeats 1600000 in
theorem C157 (c : Itr) (hc : c 157 = none) (hc2 : c 191 = none) (ax : Ax) (v : AV) (h : Heap) (hv : RdL h v ax.limits) :
  ClR (dX c) 157 [.agg [.int .i64 ax.chuck.lo, .int .i64 ax.chuck.hi, .int .i64 ax.wear.lo, .int .i64 ax.wear.hi, v]] h (isBnd ax h) := by
 have hlen := hv.len
 have hout := hv.out
 have hmax := hv.max
 have hone := hv.one
 have htup := hv.tup
 have HV := Lib.hid hv
 clear hv
 refine ClR.walk (c := _) hc Tryz.func157 rfl (by kernel_rfl) rfl isBnd_fail ?_
 simp only [entryEnv, Nat.reduceAdd]
 repeat' (first | (apply W.drawQ (id := 7) (l1 := [0, 1, 2, 3, 4, 5, 6, 7, 8, 9, 10, 11, 12, 13, 14, 15, 16, 17, 18, 19, 20]) (l2 := [21]); kernel_rfl; kernel_rfl; kernel_rfl; exact Z4) | (apply W.drawQ (id := 20) (l1 := [0, 1, 2, 3, 4, 5, 6, 7, 8, 9, 10, 11, 12, 13, 14, 15, 16, 17, 18, 19, 20, 21, 22]) (l2 := [23]); kernel_rfl; kernel_rfl; kernel_rfl; exact Z4) | refine go1 ?_ | refine go2 (fun hh => ?_) (fun hh => ?_) | fail)
 refine W.loopN 13 (fun k F => ∃ e lm hp u out, F = Fr.mk 157 false e lm hp [] none /\ fwdS ax k = some out /\ BltN h.next hp u 2 (out.map spC.enc) /\ (h.next <= hp.next /\ ∀ id, id < h.next -> hp.get id = h.get id) /\
  lm.get 1 = some (0, [.int .i64 ax.chuck.lo, .int .i64 ax.chuck.hi, .int .i64 ax.wear.lo, .int .i64 ax.wear.hi, v]) /\ e.get 1 = some (.lptr 1 0 0) /\ e.get 3 = some u /\ e.get 10 = some (.int .i64 ↑k) /\ k <= 13) ?_ ?_
 ·refine ⟨_, _, _, _, [], rfl, ?_, BltN.nil, ⟨Nat.le_refl _, fun _ _ => rfl⟩, ?_, ?_, ?_, ?_, ?_⟩ <;> first | exact Z2 | simp [fwdS, go_sem, *, Nat.reduceLT, Int.reduceEq, Int.reduceBEq, Int.reduceLE, Int.reduceLT, Nat.reduceAdd, Nat.reduceBEq, Nat.reduceEqDiff, reduceIte, Nat.reduceLeDiff, Nat.reduceMul, Nat.reduceSub, reduceCtorEq]
 rintro k F ⟨e, lm, hp, u, out, rfl, hf, hB, hX, hl1, h1, h3, h10, hk⟩
 have hol := fwdS_len ax k out hf
 have hbo := hB.blt.out
 by_cases hlt : k < 13
 ·have hd : decide ((k : Int) < 13) = true := by simp; omega
  have HF := Lib.hid hf
  have HOL := Lib.hid hol
  clear hf
  have hst : ∃ s0 : Sp, startS ax out k = s0 /\ (k = 0 /\ s0 = ax.chuck \/ k ≠ 0 /\ ∃ pv, out[k - 1]? = some pv /\ s0 = nxtS ax pv) := by
   by_cases hk0 : k = 0
   ·exact ⟨_, rfl, .inl ⟨hk0, by simp [startS, hk0]⟩⟩
   ·obtain ⟨pv, hpv⟩ := get_some (show k - 1 < out.length by omega)
    exact ⟨_, rfl, .inr ⟨hk0, pv, hpv, by simp [startS, hk0, List.getD, hpv]⟩⟩
  obtain ⟨s0, hs0, hcase⟩ := hst
  have HS := Lib.hid hs0
  clear hs0
  have hnx : fwdS ax (k + 1) = match limS k ax.limits s0 with | none => none | some s => some (out ++ [s]) := by
   simp only [fwdS, HF.out, HS.out]
  have HNX := Lib.hid hnx
  have hbn : limS k ax.limits s0 = none -> boundsS ax = none := fun e => bounds_none ax hlt HF.out (by rw [HS.out]; exact e)
  have HBN := Lib.hid hbn
  have hll : (out.map spC.enc).length + 1 <= most := by simp only [List.length_map, hol]; unfold most; omega
  clear hnx hbn
  have hw := wrap_succ hlt (by unfold maxL; omega)
  have inner : ∀ (e' : Mp AV) (lm' : Mp (Nat × List AV)) (g : Nat) (Q : Out -> Prop), lm'.get 1 = some (0, [.int .i64 ax.chuck.lo, .int .i64 ax.chuck.hi, .int .i64 ax.wear.lo, .int .i64 ax.wear.hi, v]) -> lm'.get 5 = some (g, [.int .i64 s0.lo, .int .i64 s0.hi]) ->
    e'.get 1 = some (.lptr 1 0 0) -> e'.get 3 = some u -> e'.get 4 = some (.int .i64 ↑k) -> e'.get 5 = some (.lptr 5 g 0) -> e'.get 10 = some (.int .i64 ↑k) -> e'.get 39 = some v -> e'.get 40 = some (.int .i64 ↑ax.limits.length) -> e'.get 41 = some (.int .i64 0) -> True := fun _ _ _ _ _ _ _ _ _ _ _ _ _ _ => trivial
  clear inner
  rcases hcase with ⟨hk0, hsc⟩ | ⟨hk0, pv, hpv, hsc⟩
  ·have hgt : decide ((k : Int) > 0) = false := by simp; omega
   have HSC := Lib.hid hsc
   clear hol hk0 hsc
   repeat' (first | (apply W.drawQ (id := 7) (l1 := [0, 1, 2, 3, 4, 5, 6, 7, 8, 9, 10, 11, 12, 13, 14, 15, 16, 17, 18, 19, 20]) (l2 := [21]); kernel_rfl; kernel_rfl; kernel_rfl; exact Z4) | (apply W.drawQ (id := 20) (l1 := [0, 1, 2, 3, 4, 5, 6, 7, 8, 9, 10, 11, 12, 13, 14, 15, 16, 17, 18, 19, 20, 21, 22]) (l2 := [23]); kernel_rfl; kernel_rfl; kernel_rfl; exact Z4) | refine go1 ?_ | refine go2 (fun hh => ?_) (fun hh => ?_) | fail)
   all_goals (
    refine W.loopN ax.limits.length (fun j F => ∃ e lm g s, F = Fr.mk 157 false e lm hp [] none /\ limS k (ax.limits.drop j) s = limS k ax.limits s0 /\ lm.get 1 = some (0, [.int .i64 ax.chuck.lo, .int .i64 ax.chuck.hi, .int .i64 ax.wear.lo, .int .i64 ax.wear.hi, v]) /\ lm.get 5 = some (g, [.int .i64 s.lo, .int .i64 s.hi]) /\
     e.get 1 = some (.lptr 1 0 0) /\ e.get 3 = some u /\ e.get 4 = some (.int .i64 ↑k) /\ e.get 5 = some (.lptr 5 g 0) /\ e.get 10 = some (.int .i64 ↑k) /\ e.get 39 = some v /\ e.get 40 = some (.int .i64 ↑ax.limits.length) /\ e.get 41 = some (.int .i64 ↑j) /\ j <= ax.limits.length) ?_ ?_
    ·refine ⟨_, _, nextGen lm 5, s0, rfl, ?_, ?_, ?_, ?_, ?_, ?_, ?_, ?_, ?_, ?_, ?_, ?_⟩ <;> first | exact Z2 | (have hsc := HSC.out; simp only [hsc, nxtS, w64, go_sem, *, Nat.reduceLT, Int.reduceEq, Int.reduceBEq, Int.reduceLE, Int.reduceLT, Nat.reduceAdd, Nat.reduceBEq, Nat.reduceEqDiff, reduceIte, Nat.reduceLeDiff, Nat.reduceMul, Nat.reduceSub, reduceCtorEq]; done) | simp
    rintro j F ⟨e, lm, g, s, rfl, hls, hl1, hl5, h1, h3, h4, h5, h10, h39, h40, h41, hj⟩
    have HLS := Lib.hid hls
    clear hls hgt
    by_cases hjt : j < ax.limits.length
    ·obtain ⟨m, hm⟩ := get_some hjt
     have hdr : ax.limits.drop j = m :: ax.limits.drop (j + 1) := by
      rw [List.drop_eq_getElem_cons hjt]
      rw [List.getElem?_eq_getElem hjt] at hm
      rw [Option.some.inj hm]
     obtain ⟨ptr, hptr, hmem⟩ := HV.out.get j m hm hp hX.2
     have hdj : decide ((j : Int) < (ax.limits.length : Int)) = true := by simpa using hjt
     have hwj := wrap_succ hjt hmax
     have hlsm : (if m.b == ↑k then (if empS (interS s m.sp) then none else limS k (ax.limits.drop (j + 1)) (interS s m.sp)) else limS k (ax.limits.drop (j + 1)) s) = limS k ax.limits s0 := by
      have := HLS.out
      rw [hdr, limS_cons] at this
      exact this
     have HM := Lib.hid hlsm
     clear hm hdr hlsm hd
     by_cases hbl : (m.b == (k : Int)) = true
     ·by_cases hem : empS (interS s m.sp) = true
      ·have hcl : Cl (dX c) 191 [.int .i64 ↑k, .agg [.int .i64 s.lo, .int .i64 s.hi], .vslice [.agg [.int .i64 m.lo, .int .i64 m.hi]]] hp (.pan (.iface 223 (.agg [.int .i64 ↑k])) hp none) := by
        have q := C191 c hc2 ↑k s (.vslice [.agg [.int .i64 m.lo, .int .i64 m.hi]]) [m.sp] rfl hp
        rw [comR_pan hem] at q
        exact q
       have hbn := HBN.out (by rw [<- HM.out, hbl, hem]; rfl)
       have HB2 := Lib.hid hbn
       clear hbn hem
       repeat' (first | (apply U6; exact Z1; exact Z1; (focus (exact hcl)); simp only [pM, pN, rR, rP]) | refine go1 ?_ | refine go2 (fun hh => ?_) (fun hh => ?_) | fail)
       exact isBnd_pan HB2.out hX
      ·have hem : empS (interS s m.sp) = false := by simpa using hem
       have hcl : Cl (dX c) 191 [.int .i64 ↑k, .agg [.int .i64 s.lo, .int .i64 s.hi], .vslice [.agg [.int .i64 m.lo, .int .i64 m.hi]]] hp (.ret (.agg [.int .i64 (interS s m.sp).lo, .int .i64 (interS s m.sp).hi]) hp none) := by
        have q := C191 c hc2 ↑k s (.vslice [.agg [.int .i64 m.lo, .int .i64 m.hi]]) [m.sp] rfl hp
        rw [comR_ret hem] at q
        exact q
       have hnl : limS k (ax.limits.drop (j + 1)) (interS s m.sp) = limS k ax.limits s0 := by rw [<- HM.out, hbl, hem]; rfl
       have HNL := Lib.hid hnl
       clear hnl hem
       repeat' (first | (apply U6; exact Z1; exact Z1; (focus (exact hcl)); simp only [pM, pN, rR, rP]) | refine go1 ?_ | refine go2 (fun hh => ?_) (fun hh => ?_) | fail)
       refine ⟨hjt, _, _, g, interS s m.sp, rfl, HNL.out, ?_, ?_, ?_, ?_, ?_, ?_, ?_, ?_, ?_, ?_, by omega⟩
       all_goals exact Z2
     ·have hbl : (m.b == (k : Int)) = false := by simpa using hbl
      have hnl : limS k (ax.limits.drop (j + 1)) s = limS k ax.limits s0 := by rw [<- HM.out, hbl]; rfl
      have HNL := Lib.hid hnl
      clear hnl
      repeat' (first | (apply U6; exact Z1; exact Z1; (focus (exact hcl)); simp only [pM, pN, rR, rP]) | refine go1 ?_ | refine go2 (fun hh => ?_) (fun hh => ?_) | fail)
      refine ⟨hjt, _, _, g, s, rfl, HNL.out, ?_, ?_, ?_, ?_, ?_, ?_, ?_, ?_, ?_, ?_, by omega⟩
      all_goals exact Z2
    ·have hdj : decide ((j : Int) < (ax.limits.length : Int)) = false := by simpa using hjt
     have hjl : j = ax.limits.length := by omega
     have hfin : limS k ax.limits s0 = some s := by
      rw [<- HLS.out, hjl, List.drop_length, limS_nil]
     have hf1 : fwdS ax (k + 1) = some (out ++ [s]) := by rw [HNX.out, hfin]
     have HF1 := Lib.hid hf1
     clear hf1 hfin hjl hd
     repeat' (first | (apply WO1.appendN (t := 146) (u := 146) (e := 48) (e' := 48) (sz := 2) (tl := []) (b := h.next) (h0 := h) (hb := hB) (hx := hX); exact Z1; exact rfl; (focus exact Z2); (focus exact Z2); (focus exact Z2); (focus (exact ty_row146)); exact Z1; (focus (intro v hv; simp at hv; rcases hv with rfl | rfl <;> rfl)); (focus (simp only [List.length_cons, List.length_nil]; exact hll)); (focus (simp)); (intro v' h' hB' ho' hX'; simp only [pM, pN])) | refine go1 ?_ | refine go2 (fun hh => ?_) (fun hh => ?_) | fail)
     refine ⟨hlt, _, _, _, v', out ++ [s], rfl, HF1.out, ?_, hX', ?_, ?_, ?_, ?_, by omega⟩
     ·simpa [spC] using hB'
     all_goals exact Z2)
  ·have hgt : decide ((k : Int) > 0) = true := by simp; omega
   have hne : out.map spC.enc ≠ [] := by
    intro e
    have : out = [] := by simpa using e
    rw [this] at hol
    simp at hol
    omega
   obtain ⟨id, hu, hgr, hbid, hidn⟩ := hB.row hne
   have hwm : IntKind.i64.wrap (↑k - 1) = ↑(k - 1) := by rw [wrap_small (by omega) (by omega)]; omega
   have hrow : (out.map spC.enc)[k - 1]? = some (.agg [.int .i64 pv.lo, .int .i64 pv.hi]) := by simp [hpv, spC]
   have hixr : indexAddrV Tryz.prog hp 146 u (.int .i64 ↑(k - 1)) = some (.eptr id 2 (k - 1) 0) := by
    have h1 : idxV (.int .i64 ↑(k - 1)) (out.map spC.enc).length = some (k - 1) := by
     simp only [idxV, List.length_map, hol]
     rw [if_pos (by omega)]
     simp
    rw [hu]
    simp only [indexAddrV, Tryz.underlying146, ty_lay48, h1, hgr, if_true, Nat.zero_add]
   have HU := Lib.hid hu
   have HPV := Lib.hid hpv
   have HSC := Lib.hid hsc
   clear hol hu hne hpv hk0 hsc
   repeat' (first | (apply W.drawQ (id := 7) (l1 := [0, 1, 2, 3, 4, 5, 6, 7, 8, 9, 10, 11, 12, 13, 14, 15, 16, 17, 18, 19, 20]) (l2 := [21]); kernel_rfl; kernel_rfl; kernel_rfl; exact Z4) | (apply W.drawQ (id := 20) (l1 := [0, 1, 2, 3, 4, 5, 6, 7, 8, 9, 10, 11, 12, 13, 14, 15, 16, 17, 18, 19, 20, 21, 22]) (l2 := [23]); kernel_rfl; kernel_rfl; kernel_rfl; exact Z4) | refine go1 ?_ | refine go2 (fun hh => ?_) (fun hh => ?_) | fail)
   all_goals (clear hgr hixr hrow hwm)
   all_goals (
    refine W.loopN ax.limits.length (fun j F => ∃ e lm g s, F = Fr.mk 157 false e lm hp [] none /\ limS k (ax.limits.drop j) s = limS k ax.limits s0 /\ lm.get 1 = some (0, [.int .i64 ax.chuck.lo, .int .i64 ax.chuck.hi, .int .i64 ax.wear.lo, .int .i64 ax.wear.hi, v]) /\ lm.get 5 = some (g, [.int .i64 s.lo, .int .i64 s.hi]) /\
     e.get 1 = some (.lptr 1 0 0) /\ e.get 3 = some u /\ e.get 4 = some (.int .i64 ↑k) /\ e.get 5 = some (.lptr 5 g 0) /\ e.get 10 = some (.int .i64 ↑k) /\ e.get 39 = some v /\ e.get 40 = some (.int .i64 ↑ax.limits.length) /\ e.get 41 = some (.int .i64 ↑j) /\ j <= ax.limits.length) ?_ ?_
    ·refine ⟨_, _, nextGen lm 5, s0, rfl, ?_, ?_, ?_, ?_, ?_, ?_, ?_, ?_, ?_, ?_, ?_, ?_⟩ <;> first | exact Z2 | (have hsc := HSC.out; simp only [hsc, nxtS, w64, go_sem, *, Nat.reduceLT, Int.reduceEq, Int.reduceBEq, Int.reduceLE, Int.reduceLT, Nat.reduceAdd, Nat.reduceBEq, Nat.reduceEqDiff, reduceIte, Nat.reduceLeDiff, Nat.reduceMul, Nat.reduceSub, reduceCtorEq]; done) | simp
    rintro j F ⟨e, lm, g, s, rfl, hls, hl1, hl5, h1, h3, h4, h5, h10, h39, h40, h41, hj⟩
    have HLS := Lib.hid hls
    clear hls hgt
    by_cases hjt : j < ax.limits.length
    ·obtain ⟨m, hm⟩ := get_some hjt
     have hdr : ax.limits.drop j = m :: ax.limits.drop (j + 1) := by
      rw [List.drop_eq_getElem_cons hjt]
      rw [List.getElem?_eq_getElem hjt] at hm
      rw [Option.some.inj hm]
     obtain ⟨ptr, hptr, hmem⟩ := HV.out.get j m hm hp hX.2
     have hdj : decide ((j : Int) < (ax.limits.length : Int)) = true := by simpa using hjt
     have hwj := wrap_succ hjt hmax
     have hlsm : (if m.b == ↑k then (if empS (interS s m.sp) then none else limS k (ax.limits.drop (j + 1)) (interS s m.sp)) else limS k (ax.limits.drop (j + 1)) s) = limS k ax.limits s0 := by
      have := HLS.out
      rw [hdr, limS_cons] at this
      exact this
     have HM := Lib.hid hlsm
     clear hm hdr hlsm hd
     by_cases hbl : (m.b == (k : Int)) = true
     ·by_cases hem : empS (interS s m.sp) = true
      ·have hcl : Cl (dX c) 191 [.int .i64 ↑k, .agg [.int .i64 s.lo, .int .i64 s.hi], .vslice [.agg [.int .i64 m.lo, .int .i64 m.hi]]] hp (.pan (.iface 223 (.agg [.int .i64 ↑k])) hp none) := by
        have q := C191 c hc2 ↑k s (.vslice [.agg [.int .i64 m.lo, .int .i64 m.hi]]) [m.sp] rfl hp
        rw [comR_pan hem] at q
        exact q
       have hbn := HBN.out (by rw [<- HM.out, hbl, hem]; rfl)
       have HB2 := Lib.hid hbn
       clear hbn hem
       repeat' (first | (apply U6; exact Z1; exact Z1; (focus (exact hcl)); simp only [pM, pN, rR, rP]) | refine go1 ?_ | refine go2 (fun hh => ?_) (fun hh => ?_) | fail)
       exact isBnd_pan HB2.out hX
      ·have hem : empS (interS s m.sp) = false := by simpa using hem
       have hcl : Cl (dX c) 191 [.int .i64 ↑k, .agg [.int .i64 s.lo, .int .i64 s.hi], .vslice [.agg [.int .i64 m.lo, .int .i64 m.hi]]] hp (.ret (.agg [.int .i64 (interS s m.sp).lo, .int .i64 (interS s m.sp).hi]) hp none) := by
        have q := C191 c hc2 ↑k s (.vslice [.agg [.int .i64 m.lo, .int .i64 m.hi]]) [m.sp] rfl hp
        rw [comR_ret hem] at q
        exact q
       have hnl : limS k (ax.limits.drop (j + 1)) (interS s m.sp) = limS k ax.limits s0 := by rw [<- HM.out, hbl, hem]; rfl
       have HNL := Lib.hid hnl
       clear hnl hem
       repeat' (first | (apply U6; exact Z1; exact Z1; (focus (exact hcl)); simp only [pM, pN, rR, rP]) | refine go1 ?_ | refine go2 (fun hh => ?_) (fun hh => ?_) | fail)
       refine ⟨hjt, _, _, g, interS s m.sp, rfl, HNL.out, ?_, ?_, ?_, ?_, ?_, ?_, ?_, ?_, ?_, ?_, by omega⟩
       all_goals exact Z2
     ·have hbl : (m.b == (k : Int)) = false := by simpa using hbl
      have hnl : limS k (ax.limits.drop (j + 1)) s = limS k ax.limits s0 := by rw [<- HM.out, hbl]; rfl
      have HNL := Lib.hid hnl
      clear hnl
      repeat' (first | (apply U6; exact Z1; exact Z1; (focus (exact hcl)); simp only [pM, pN, rR, rP]) | refine go1 ?_ | refine go2 (fun hh => ?_) (fun hh => ?_) | fail)
      refine ⟨hjt, _, _, g, s, rfl, HNL.out, ?_, ?_, ?_, ?_, ?_, ?_, ?_, ?_, ?_, ?_, by omega⟩
      all_goals exact Z2
    ·have hdj : decide ((j : Int) < (ax.limits.length : Int)) = false := by simpa using hjt
     have hjl : j = ax.limits.length := by omega
     have hfin : limS k ax.limits s0 = some s := by
      rw [<- HLS.out, hjl, List.drop_length, limS_nil]
     have hf1 : fwdS ax (k + 1) = some (out ++ [s]) := by rw [HNX.out, hfin]
     have HF1 := Lib.hid hf1
     clear hf1 hfin hjl hd
     repeat' (first | (apply WO1.appendN (t := 146) (u := 146) (e := 48) (e' := 48) (sz := 2) (tl := []) (b := h.next) (h0 := h) (hb := hB) (hx := hX); exact Z1; exact rfl; (focus exact Z2); (focus exact Z2); (focus exact Z2); (focus (exact ty_row146)); exact Z1; (focus (intro v hv; simp at hv; rcases hv with rfl | rfl <;> rfl)); (focus (simp only [List.length_cons, List.length_nil]; exact hll)); (focus (simp)); (intro v' h' hB' ho' hX'; simp only [pM, pN])) | refine go1 ?_ | refine go2 (fun hh => ?_) (fun hh => ?_) | fail)
     refine ⟨hlt, _, _, _, v', out ++ [s], rfl, HF1.out, ?_, hX', ?_, ?_, ?_, ?_, by omega⟩
     ·simpa [spC] using hB'
     all_goals exact Z2)
 ·have hd : decide ((k : Int) < 13) = false := by simp; omega
  have hk13 : k = 13 := by omega
  have hne : out.map spC.enc ≠ [] := by
   intro e
   have : out = [] := by simpa using e
   rw [this] at hol
   simp at hol
   omega
  obtain ⟨id, hu, hgr, hbid, hidn⟩ := hB.row hne
  have hu13 : u = .row id 0 13 := by rw [hu, List.length_map, hol, hk13]
  have hol13 : out.length = 13 := by omega
  have hbd : boundsS ax = bwdS ax 12 out := by rw [hk13] at hf; simp only [boundsS_def, hf]
  subst hu13
  have HBD := Lib.hid hbd
  have HOL := Lib.hid hol13
  have HGR := Lib.hid hgr
  clear hbd hol13 hgr hf hol hk13 hu hne hB hk
  repeat' (first | (apply W.drawQ (id := 7) (l1 := [0, 1, 2, 3, 4, 5, 6, 7, 8, 9, 10, 11, 12, 13, 14, 15, 16, 17, 18, 19, 20]) (l2 := [21]); kernel_rfl; kernel_rfl; kernel_rfl; exact Z4) | (apply W.drawQ (id := 20) (l1 := [0, 1, 2, 3, 4, 5, 6, 7, 8, 9, 10, 11, 12, 13, 14, 15, 16, 17, 18, 19, 20, 21, 22]) (l2 := [23]); kernel_rfl; kernel_rfl; kernel_rfl; exact Z4) | refine go1 ?_ | refine go2 (fun hh => ?_) (fun hh => ?_) | fail)
  refine W.loopN 12 (fun j F => ∃ e lm hp cur, F = Fr.mk 157 false e lm hp [] none /\ bwdS ax (12 - j) cur = bwdS ax 12 out /\ cur.length = 13 /\ hp.get id = some (.rw 2 (cur.map spC.enc)) /\ (id < hp.next /\ h.next <= hp.next /\ ∀ id, id < h.next -> hp.get id = h.get id) /\
   lm.get 1 = some (0, [.int .i64 ax.chuck.lo, .int .i64 ax.chuck.hi, .int .i64 ax.wear.lo, .int .i64 ax.wear.hi, v]) /\ e.get 1 = some (.lptr 1 0 0) /\ e.get 3 = some (.row id 0 13) /\ e.get 8 = some (.int .i64 (11 - ↑j)) /\ j <= 12) ?_ ?_
  ·refine ⟨_, _, _, out, rfl, rfl, HOL.out, HGR.out, ⟨hidn, hX⟩, ?_, ?_, ?_, ?_, ?_⟩ <;> first | exact Z2 | simp [go_sem, *]
  clear hd hbo h10
  rintro j F ⟨e, lm, hp, cur, rfl, hbw, hcl13, hgid, hX, hl1, h1, h3, h8, hj⟩
  have HBW := Lib.hid hbw
  have HC := Lib.hid hcl13
  clear hbw
  by_cases hjt : j < 12
  ·have hdj : decide ((11 - (j : Int)) >= 0) = true := by simp; omega
   obtain ⟨pb, hpb⟩ := get_some (show 11 - j < cur.length by omega)
   obtain ⟨pn, hpn⟩ := get_some (show 12 - j < cur.length by omega)
   have hw1 : IntKind.i64.wrap (11 - ↑j + 1) = ↑(12 - j) := by rw [wrap_small (by omega) (by omega)]; omega
   have hw2 : IntKind.i64.wrap (11 - ↑j - 1) = 11 - ↑(j + 1) := by rw [wrap_small (by omega) (by omega)]; omega
   have hrb : (cur.map spC.enc)[11 - j]? = some (.agg [.int .i64 pb.lo, .int .i64 pb.hi]) := by simp [hpb, spC]
   have hrn : (cur.map spC.enc)[12 - j]? = some (.agg [.int .i64 pn.lo, .int .i64 pn.hi]) := by simp [hpn, spC]
   have hib : ∀ H : Heap, H.get id = some (.rw 2 (cur.map spC.enc)) -> indexAddrV Tryz.prog H 146 (.row id 0 13) (.int .i64 (11 - ↑j)) = some (.eptr id 2 (11 - j) 0) := fun H hg => by
    have h1 : idxV (.int .i64 (11 - ↑j)) 13 = some (11 - j) := by
     simp only [idxV]
     rw [if_pos (by omega)]
     congr 1
     omega
    simp only [indexAddrV, Tryz.underlying146, ty_lay48, h1, hg, if_true, Nat.zero_add]
   have hin : ∀ H : Heap, H.get id = some (.rw 2 (cur.map spC.enc)) -> indexAddrV Tryz.prog H 146 (.row id 0 13) (.int .i64 ↑(12 - j)) = some (.eptr id 2 (12 - j) 0) := fun H hg => by
    have h1 : idxV (.int .i64 ↑(12 - j)) 13 = some (12 - j) := by
     simp only [idxV]
     rw [if_pos (by omega)]
     simp
    simp only [indexAddrV, Tryz.underlying146, ty_lay48, h1, hg, if_true, Nat.zero_add]
   have hixb := hib hp hgid
   have hixn := hin hp hgid
   have hstep : bwdS ax (12 - j) cur = if empS (interS pb (prvS ax pn)) then none else bwdS ax (11 - j) (cur.set (11 - j) (interS pb (prvS ax pn))) := by
    rw [show 12 - j = (11 - j) + 1 from by omega, bwdS_succ]
    have e1 : cur.getD (11 - j) ⟨0, 0⟩ = pb := by simp [List.getD, hpb]
    have e2 : cur.getD (11 - j + 1) ⟨0, 0⟩ = pn := by rw [show 11 - j + 1 = 12 - j from by omega]; simp [List.getD, hpn]
    rw [e1, e2]
   have HST := Lib.hid hstep
   clear hib hin hpb hpn hstep hcl13
   by_cases hem : empS (interS pb (prvS ax pn)) = true
   ·have hcl : Cl (dX c) 191 [.int .i64 (11 - ↑j), .agg [.int .i64 pb.lo, .int .i64 pb.hi], .vslice [.agg [.int .i64 (IntKind.i64.wrap (pn.lo - ax.wear.hi)), .int .i64 (IntKind.i64.wrap (pn.hi - ax.wear.lo))]]] hp (.pan (.iface 223 (.agg [.int .i64 (11 - ↑j)])) hp none) := by
     have q := C191 c hc2 (11 - ↑j) pb (.vslice [.agg [.int .i64 (prvS ax pn).lo, .int .i64 (prvS ax pn).hi]]) [prvS ax pn] rfl hp
     rw [comR_pan hem] at q
     exact q
    have hbn : boundsS ax = none := by rw [HBD.out, <- HBW.out, HST.out, hem]; rfl
    have HBN := Lib.hid hbn
    clear hbn hem
    repeat' (first | (apply W.drawP (id := 20) (i := 21) (l1 := [0, 1, 2, 3, 4, 5, 6, 7, 8, 9, 10, 11, 12, 13, 14, 15, 16, 17, 18, 19, 20]) (l2 := [22, 23]); kernel_rfl; kernel_rfl; kernel_rfl; exact rfl; exact rfl; exact Z4) | (apply U6; exact Z1; exact Z1; (focus (exact hcl)); simp only [pM, pN, rR, rP]) | (simp only [junkAll, pM, pN, tP, bP, eP, true_and]) | refine go1 ?_ | refine go2 (fun hh => ?_) (fun hh => ?_) | fail)
    exact isBnd_pan HBN.out hX.2
   ·have hem : empS (interS pb (prvS ax pn)) = false := by simpa using hem
    have hcl : Cl (dX c) 191 [.int .i64 (11 - ↑j), .agg [.int .i64 pb.lo, .int .i64 pb.hi], .vslice [.agg [.int .i64 (IntKind.i64.wrap (pn.lo - ax.wear.hi)), .int .i64 (IntKind.i64.wrap (pn.hi - ax.wear.lo))]]] hp (.ret (.agg [.int .i64 (interS pb (prvS ax pn)).lo, .int .i64 (interS pb (prvS ax pn)).hi]) hp none) := by
     have q := C191 c hc2 (11 - ↑j) pb (.vslice [.agg [.int .i64 (prvS ax pn).lo, .int .i64 (prvS ax pn).hi]]) [prvS ax pn] rfl hp
     rw [comR_ret hem] at q
     exact q
    have hnb : bwdS ax (11 - j) (cur.set (11 - j) (interS pb (prvS ax pn))) = bwdS ax 12 out := by rw [<- HBW.out, HST.out, hem]; rfl
    have HNB := Lib.hid hnb
    clear hnb hem
    repeat' (first | (apply W.drawQ (id := 7) (l1 := [0, 1, 2, 3, 4, 5, 6, 7, 8, 9, 10, 11, 12, 13, 14, 15, 16, 17, 18, 19, 20]) (l2 := [21]); kernel_rfl; kernel_rfl; kernel_rfl; exact Z4) | (apply W.drawQ (id := 20) (l1 := [0, 1, 2, 3, 4, 5, 6, 7, 8, 9, 10, 11, 12, 13, 14, 15, 16, 17, 18, 19, 20, 21, 22]) (l2 := [23]); kernel_rfl; kernel_rfl; kernel_rfl; exact Z4) | (apply U6; exact Z1; exact Z1; (focus (exact hcl)); simp only [pM, pN, rR, rP]) | refine go1 ?_ | refine go2 (fun hh => ?_) (fun hh => ?_) | fail)
    refine ⟨hjt, _, _, _, cur.set (11 - j) (interS pb (prvS ax pn)), rfl, ?_, ?_, ?_, ?_, ?_, ?_, ?_, ?_, by omega⟩
    ·rw [show 12 - (j + 1) = 11 - j from by omega]; exact HNB.out
    ·rw [List.length_set]; exact HC.out
    ·simp [Heap.get, Heap.put, List.map_set, spC, asElem, isAggV]
    ·refine ⟨hX.1, hX.2.1, fun i hi => ?_⟩
     have hne : id ≠ i := by omega
     rw [<- hX.2.2 i hi]
     simp [Heap.get, Heap.put, hne]
    all_goals exact Z2
  ·have hdj : decide ((11 - (j : Int)) >= 0) = false := by simp; omega
   have hj12 : j = 12 := by omega
   have hbc : boundsS ax = some cur := by rw [HBD.out, <- HBW.out, hj12]; rfl
   have HBC := Lib.hid hbc
   clear hbc hj12 hcl13
   have hne2 : cur.map spC.enc ≠ [] := by
    intro e
    have e2 : cur = [] := by simpa using e
    have e3 := HC.out
    rw [e2] at e3
    simp at e3
   have hsl : slN (cur.map spC.enc) = .vslice (cur.map spC.enc) := by
    cases hh : cur.map spC.enc with
    | nil => exact absurd hh hne2
    | cons x l => rfl
   have hz : freeze hp (.row id 0 13) = some (.vslice (cur.map spC.enc), hp.del id) := by
    show frz1 hp (.row id 0 13) = _
    simp only [frz1, hgid, List.length_map, HC.out, Nat.zero_add, Nat.le_refl, if_true, List.drop_zero]
    rw [List.take_of_length_le (by simp [HC.out])]
   have HSL := Lib.hid hsl
   clear hne2 hsl
   repeat' (first | (apply W.drawQ (id := 7) (l1 := [0, 1, 2, 3, 4, 5, 6, 7, 8, 9, 10, 11, 12, 13, 14, 15, 16, 17, 18, 19, 20]) (l2 := [21]); kernel_rfl; kernel_rfl; kernel_rfl; exact Z4) | (apply W.drawQ (id := 20) (l1 := [0, 1, 2, 3, 4, 5, 6, 7, 8, 9, 10, 11, 12, 13, 14, 15, 16, 17, 18, 19, 20, 21, 22]) (l2 := [23]); kernel_rfl; kernel_rfl; kernel_rfl; exact Z4) | refine go1 ?_ | refine go2 (fun hh => ?_) (fun hh => ?_) | fail)
   all_goals (simp only [resV_def (X := dX c) Tryz.func157, Tryz.results157]; first | exact J5 | refine J6 ?_)
   refine isBnd_ret HBC.out HSL.out ⟨hX.2.1, fun i hi => ?_⟩
   have hne : id ≠ i := by omega
   rw [<- hX.2.2 i hi]
   simp [Heap.get, Heap.del, hne]
end Go.AM
namespace Go.AM
open Go Go.Proofs
variable [Keep]
attribute [local irreducible] W WO WO1 WD WQ WT thenQ blockQ endR isRet retK Cl ClR
structure Rdg where
 b : Int
 x : Int
 y : Int
 err : Int
def rdgC : Cd Rdg where
 enc p := .agg [.int .i64 p.b, .int .i64 p.x, .int .i64 p.y, .int .i64 p.err]
 dec a := match a with | .agg [.int .i64 b, .int .i64 x, .int .i64 y, .int .i64 z] => some ⟨b, x, y, z⟩ | _ => none
 de _ := rfl
 ed a x h := by split at h <;> cases h; rfl
 pur _ := rfl
theorem rdg_idx {a : AV} {l : List Rdg} (h : slV rdgC a = some l) {k : Nat} {p : Rdg} (hp : l[k]? = some p) (H : Heap) : indexAddrV Tryz.prog H 49 a (.int .i64 ↑k) = some (.vptr [.int .i64 p.b, .int .i64 p.x, .int .i64 p.y, .int .i64 p.err]) :=
 (slV_is h).1.idx (x := rdgC.enc p) Tryz.underlying49 ty_lay95 (by simp [hp]) rfl
def isAx (h : Heap) (cx wx : Sp) (l : List Lim) (r : COut) : Prop := ∃ h' u, r = .ret (.agg [.int .i64 cx.lo, .int .i64 cx.hi, .int .i64 wx.lo, .int .i64 wx.hi, u]) h' none /\ BltN h.next h' u 3 (l.map limC.enc) /\ HExt h h'
theorem isAx_fail {h : Heap} {cx wx : Sp} {l : List Lim} : ¬ isAx h cx wx l .fail := by rintro ⟨_, _, e, _⟩; cases e
theorem isAx_ret {h h' : Heap} {u : AV} {cx wx : Sp} {l : List Lim} (b : BltN h.next h' u 3 (l.map limC.enc)) (x : h.next <= h'.next /\ ∀ id, id < h.next -> h'.get id = h.get id) :
  isAx h cx wx l (.ret (.agg [.int .i64 cx.lo, .int .i64 cx.hi, .int .i64 wx.lo, .int .i64 wx.hi, u]) h' none) := ⟨h', u, rfl, b, x⟩
attribute [local irreducible] isAx
def lims155 (rs : List Rdg) : List Lim := rs.map fun r => ⟨r.b, w64 (r.x - r.err), w64 (r.x + r.err)⟩
set_option maxHeartbeats 800000 in
theorem C155 (c : Itr) (hc : c 155 = none) (hc2 : c 190 = some (pureFn sp190)) (sa mv ra : AV) (cx cy wx wy : Sp) (rs : List Rdg) (h : Heap) (hr : slV rdgC ra = some rs) (hsa : sa.one = true) (hmv : mv.one = true) :
  ClR (dX c) 155 [.agg [sa, .int .i64 cx.lo, .int .i64 cx.hi, .int .i64 cy.lo, .int .i64 cy.hi, .int .i64 wx.lo, .int .i64 wx.hi, .int .i64 wy.lo, .int .i64 wy.hi, ra, mv]] h (isAx h cx wx (lims155 rs)) := by
 have hlen := sl_len hr
 have hout := sl_out hr
 have hmax := sl_max hr
 refine ClR.walk (c := _) hc Tryz.func155 rfl (by kernel_rfl) rfl isAx_fail ?_
 simp only [entryEnv, Nat.reduceAdd]
 repeat' (first | (apply W.drawQ (id := 5) (l1 := [0, 1, 2, 3, 4, 5, 6, 7, 8, 9, 10]) (l2 := [11, 12, 13]); kernel_rfl; kernel_rfl; kernel_rfl; exact Z4) | refine go1 ?_ | refine go2 (fun hh => ?_) (fun hh => ?_) | fail)
 refine W.loopN rs.length (fun k F => ∃ e lm hp u g, F = Fr.mk 155 false e lm hp [] none /\ BltN h.next hp u 3 ((lims155 (rs.take k)).map limC.enc) /\ (h.next <= hp.next /\ ∀ id, id < h.next -> hp.get id = h.get id) /\
  lm.get 3 = some (g, [.int .i64 cx.lo, .int .i64 cx.hi, .int .i64 wx.lo, .int .i64 wx.hi, u]) /\ lm.get 2 = some (0, [.int .i64 0, .int .i64 0, .int .i64 0, .int .i64 0, .nilslice]) /\ e.get 2 = some (.lptr 2 0 0) /\ e.get 3 = some (.lptr 3 g 0) /\ e.get 15 = some ra /\ e.get 16 = some (.int .i64 ↑rs.length) /\ e.get 17 = some (.int .i64 ↑k) /\ k <= rs.length) ?_ ?_
 ·refine ⟨_, _, _, _, 0, rfl, BltN.nil, ⟨Nat.le_refl _, fun _ _ => rfl⟩, ?_, ?_, ?_, ?_, ?_, ?_, ?_, ?_⟩ <;> first | exact Z2 | simp [go_sem, *]
 rintro k F ⟨e, lm, hp, u, g, rfl, hB, hX, hl3, hl2, h2, h3, h15, h16, h17, hk⟩
 have hbo := hB.blt.out
 have hbc := hB.blt.cells
 have hbt := hB.blt.tup
 by_cases hlt : k < rs.length
 ·obtain ⟨p, hp'⟩ := get_some hlt
  have hix := rdg_idx hr hp'
  have hd : decide ((k : Int) < (rs.length : Int)) = true := by simpa using hlt
  have hw := wrap_succ hlt hmax
  have hnx : lims155 (rs.take (k + 1)) = lims155 (rs.take k) ++ [⟨p.b, w64 (p.x - p.err), w64 (p.x + p.err)⟩] := by rw [take_next hp']; simp [lims155]
  have hll : ((lims155 (rs.take k)).map limC.enc).length + 1 <= most := by
   simp only [lims155, List.length_map, List.length_take]; unfold most; unfold maxL at hmax; omega
  clear hr hp'
  repeat' (first | (apply W.drawQ (id := 5) (l1 := [0, 1, 2, 3, 4, 5, 6, 7, 8, 9, 10]) (l2 := [11, 12, 13]); kernel_rfl; kernel_rfl; kernel_rfl; exact Z4) | (apply WO1.appendN (t := 226) (u := 226) (e := 230) (e' := 230) (sz := 3) (tl := []) (b := h.next) (h0 := h) (hb := hB) (hx := hX); exact Z1; exact rfl; (focus exact Z2); (focus exact Z2); (focus exact Z2); (focus (exact ty_row226)); exact Z1; (focus (intro v hv; simp at hv; rcases hv with rfl | rfl <;> rfl)); (focus (simp only [List.length_cons, List.length_nil]; exact hll)); (focus (simp)); (intro v' h' hB' ho' hX'; have hcc' := hB'.blt.cells; have htt' := hB'.blt.tup; simp only [AV.cells] at hcc'; simp only [isTuple] at htt'; simp only [pM, pN])) | refine go1 ?_ | (apply U6; exact Z1; exact Z1; (focus (simp only [List.nil_append, List.append_nil]; first | exact K190 hc2 _ _ _)); simp only [pM, pN, rR, rP]) | refine go2 (fun hh => ?_) (fun hh => ?_) | fail)
  refine ⟨hlt, _, _, _, v', g, rfl, ?_, hX', ?_, ?_, ?_, ?_, ?_, ?_, ?_, by omega⟩
  ·rw [hnx]; simpa [limC] using hB'
  all_goals exact Z2
 ·have hd : decide ((k : Int) < (rs.length : Int)) = false := by simpa using hlt
  have hkl : k = rs.length := by omega
  rw [hkl, List.take_length] at hB
  clear hkl hr
  repeat' (first | (apply W.drawQ (id := 5) (l1 := [0, 1, 2, 3, 4, 5, 6, 7, 8, 9, 10]) (l2 := [11, 12, 13]); kernel_rfl; kernel_rfl; kernel_rfl; exact Z4) | refine go1 ?_ | refine go2 (fun hh => ?_) (fun hh => ?_) | fail)
  all_goals (simp only [resV_def (X := dX c) Tryz.func155, Tryz.results155]; first | exact J5 | refine J6 ?_)
  exact isAx_ret hB hX
def lims156 (rs : List Rdg) : List Lim := rs.map fun r => ⟨r.b, w64 (r.y - r.err), w64 (r.y + r.err)⟩
set_option maxHeartbeats 800000 in
theorem C156 (c : Itr) (hc : c 156 = none) (hc2 : c 190 = some (pureFn sp190)) (sa mv ra : AV) (cx cy wx wy : Sp) (rs : List Rdg) (h : Heap) (hr : slV rdgC ra = some rs) (hsa : sa.one = true) (hmv : mv.one = true) :
  ClR (dX c) 156 [.agg [sa, .int .i64 cx.lo, .int .i64 cx.hi, .int .i64 cy.lo, .int .i64 cy.hi, .int .i64 wx.lo, .int .i64 wx.hi, .int .i64 wy.lo, .int .i64 wy.hi, ra, mv]] h (isAx h cy wy (lims156 rs)) := by
 have hlen := sl_len hr
 have hout := sl_out hr
 have hmax := sl_max hr
 refine ClR.walk (c := _) hc Tryz.func156 rfl (by kernel_rfl) rfl isAx_fail ?_
 simp only [entryEnv, Nat.reduceAdd]
 repeat' (first | (apply W.drawQ (id := 5) (l1 := [0, 1, 2, 3, 4, 5, 6, 7, 8, 9, 10]) (l2 := [11, 12, 13]); kernel_rfl; kernel_rfl; kernel_rfl; exact Z4) | refine go1 ?_ | refine go2 (fun hh => ?_) (fun hh => ?_) | fail)
 refine W.loopN rs.length (fun k F => ∃ e lm hp u g, F = Fr.mk 156 false e lm hp [] none /\ BltN h.next hp u 3 ((lims156 (rs.take k)).map limC.enc) /\ (h.next <= hp.next /\ ∀ id, id < h.next -> hp.get id = h.get id) /\
  lm.get 3 = some (g, [.int .i64 cy.lo, .int .i64 cy.hi, .int .i64 wy.lo, .int .i64 wy.hi, u]) /\ lm.get 2 = some (0, [.int .i64 0, .int .i64 0, .int .i64 0, .int .i64 0, .nilslice]) /\ e.get 2 = some (.lptr 2 0 0) /\ e.get 3 = some (.lptr 3 g 0) /\ e.get 15 = some ra /\ e.get 16 = some (.int .i64 ↑rs.length) /\ e.get 17 = some (.int .i64 ↑k) /\ k <= rs.length) ?_ ?_
 ·refine ⟨_, _, _, _, 0, rfl, BltN.nil, ⟨Nat.le_refl _, fun _ _ => rfl⟩, ?_, ?_, ?_, ?_, ?_, ?_, ?_, ?_⟩ <;> first | exact Z2 | simp [go_sem, *]
 rintro k F ⟨e, lm, hp, u, g, rfl, hB, hX, hl3, hl2, h2, h3, h15, h16, h17, hk⟩
 have hbo := hB.blt.out
 have hbc := hB.blt.cells
 have hbt := hB.blt.tup
 by_cases hlt : k < rs.length
 ·obtain ⟨p, hp'⟩ := get_some hlt
  have hix := rdg_idx hr hp'
  have hd : decide ((k : Int) < (rs.length : Int)) = true := by simpa using hlt
  have hw := wrap_succ hlt hmax
  have hnx : lims156 (rs.take (k + 1)) = lims156 (rs.take k) ++ [⟨p.b, w64 (p.y - p.err), w64 (p.y + p.err)⟩] := by rw [take_next hp']; simp [lims156]
  have hll : ((lims156 (rs.take k)).map limC.enc).length + 1 <= most := by
   simp only [lims156, List.length_map, List.length_take]; unfold most; unfold maxL at hmax; omega
  clear hr hp'
  repeat' (first | (apply W.drawQ (id := 5) (l1 := [0, 1, 2, 3, 4, 5, 6, 7, 8, 9, 10]) (l2 := [11, 12, 13]); kernel_rfl; kernel_rfl; kernel_rfl; exact Z4) | (apply WO1.appendN (t := 226) (u := 226) (e := 230) (e' := 230) (sz := 3) (tl := []) (b := h.next) (h0 := h) (hb := hB) (hx := hX); exact Z1; exact rfl; (focus exact Z2); (focus exact Z2); (focus exact Z2); (focus (exact ty_row226)); exact Z1; (focus (intro v hv; simp at hv; rcases hv with rfl | rfl <;> rfl)); (focus (simp only [List.length_cons, List.length_nil]; exact hll)); (focus (simp)); (intro v' h' hB' ho' hX'; have hcc' := hB'.blt.cells; have htt' := hB'.blt.tup; simp only [AV.cells] at hcc'; simp only [isTuple] at htt'; simp only [pM, pN])) | refine go1 ?_ | (apply U6; exact Z1; exact Z1; (focus (simp only [List.nil_append, List.append_nil]; first | exact K190 hc2 _ _ _)); simp only [pM, pN, rR, rP]) | refine go2 (fun hh => ?_) (fun hh => ?_) | fail)
  refine ⟨hlt, _, _, _, v', g, rfl, ?_, hX', ?_, ?_, ?_, ?_, ?_, ?_, ?_, by omega⟩
  ·rw [hnx]; simpa [limC] using hB'
  all_goals exact Z2
 ·have hd : decide ((k : Int) < (rs.length : Int)) = false := by simpa using hlt
  have hkl : k = rs.length := by omega
  rw [hkl, List.take_length] at hB
  clear hkl hr
  repeat' (first | (apply W.drawQ (id := 5) (l1 := [0, 1, 2, 3, 4, 5, 6, 7, 8, 9, 10]) (l2 := [11, 12, 13]); kernel_rfl; kernel_rfl; kernel_rfl; exact Z4) | refine go1 ?_ | refine go2 (fun hh => ?_) (fun hh => ?_) | fail)
  all_goals (simp only [resV_def (X := dX c) Tryz.func156, Tryz.results156]; first | exact J5 | refine J6 ?_)
  exact isAx_ret hB hX
end Go.AM
namespace Go.AM
open Go Go.Proofs
variable [Keep]
attribute [local irreducible] W WO WO1 WD WQ WT thenQ blockQ endR isRet retK Cl ClR
attribute [local irreducible] DefR
theorem eql_nn : binV Tryz.prog .eql 20 true .niliface .niliface = some (.bool true) := by kernel_rfl
theorem eql_in (t : TypeId) (v : AV) : binV Tryz.prog .eql 20 true (.iface t v) .niliface = some (.bool false) := by kernel_rfl
variable (c : Itr)
theorem D154n (hn : Nat) (n : Nat) (m : Mp Blk) (Q : Heap -> Option AV -> Prop) (q : Q ⟨n, m⟩ none) : DefR (dX c) [(.func (.func 154) [] [.ptr hn 0, .ptr (hn + 1) 0], [])] ⟨n, m⟩ none Q := by
 have q := Lib.hid q
 have hq1 := eql_nn
 have hq2 := eql_in
 refine DefR.cons (g := 154) (X := dX c) Tryz.func154 (by kernel_rfl) rfl (by kernel_rfl) rfl ?_
 simp only [entryEnv, Nat.reduceAdd, List.nil_append, List.append_nil, Option.map_none]
 repeat' (first | (apply U5; exact rfl; (focus (intro cl rd; simp only [go_sem, *, Nat.reduceLT, Int.reduceEq, Int.reduceBEq, Int.reduceLE, Int.reduceLT, Nat.reduceAdd, Nat.reduceBEq, Nat.reduceEqDiff, reduceIte, Nat.reduceLeDiff, Nat.reduceMul, Nat.reduceSub, reduceCtorEq, efV, Fr.callOp, Fr.builtinE, Fr.recoverE, reduceIte, Bool.false_eq_true]; with_reducible rfl)); simp only [pM, pN]) | (simp only [endDef_norm]) | refine go1 ?_ | refine go2 (fun hh => ?_) (fun hh => ?_) | fail)
 refine DefR.nil ?_
 exact q.out
theorem D154p (hn : Nat) (n : Nat) (m : Mp Blk) (a b : AV) (x : Int) (Q : Heap -> Option AV -> Prop) (hg : m.get hn = some (.var [a, b])) (hg1 : m.get (hn + 1) = some (.var [.bool false])) (q : ∀ m', m'.get hn = some (.var [.nilslice, .nilslice]) -> m'.get (hn + 1) = some (.var [.bool false]) -> (∀ id, id < hn -> m'.get id = m.get id) -> Q ⟨n, m'⟩ none) :
  DefR (dX c) [(.func (.func 154) [] [.ptr hn 0, .ptr (hn + 1) 0], [])] ⟨n, m⟩ (some (.iface 223 (.agg [.int .i64 x]))) Q := by
 have q := Lib.hid q
 have hq1 := eql_nn
 have hq2 := eql_in
 have h1 : (hn == hn + 1) = false := by simp
 have h2 : (hn + 1 == hn) = false := by simp
 refine DefR.cons (g := 154) (X := dX c) Tryz.func154 (by kernel_rfl) rfl (by kernel_rfl) rfl ?_
 simp only [entryEnv, Nat.reduceAdd, List.nil_append, List.append_nil, Option.map_some]
 repeat' (first | (apply U5; exact rfl; (focus (intro cl rd; simp only [go_sem, *, Nat.reduceLT, Int.reduceEq, Int.reduceBEq, Int.reduceLE, Int.reduceLT, Nat.reduceAdd, Nat.reduceBEq, Nat.reduceEqDiff, reduceIte, Nat.reduceLeDiff, Nat.reduceMul, Nat.reduceSub, reduceCtorEq, efV, Fr.callOp, Fr.builtinE, Fr.recoverE, reduceIte, Bool.false_eq_true]; with_reducible rfl)); simp only [pM, pN]) | (simp only [endDef_norm]) | refine go1 ?_ | refine go2 (fun hh => ?_) (fun hh => ?_) | fail)
 refine DefR.nil ?_
 refine q.out _ ?_ ?_ ?_
 ·simp only [go_sem, *, Nat.reduceLT, Int.reduceEq, Int.reduceBEq, Int.reduceLE, Int.reduceLT, Nat.reduceAdd, Nat.reduceBEq, Nat.reduceEqDiff, reduceIte, Nat.reduceLeDiff, Nat.reduceMul, Nat.reduceSub, reduceCtorEq]
 ·simp only [go_sem, *, Nat.reduceLT, Int.reduceEq, Int.reduceBEq, Int.reduceLE, Int.reduceLT, Nat.reduceAdd, Nat.reduceBEq, Nat.reduceEqDiff, reduceIte, Nat.reduceLeDiff, Nat.reduceMul, Nat.reduceSub, reduceCtorEq]
 ·intro id hid
  have e1 : (hn == id) = false := by simp; omega
  have e2 : (hn + 1 == id) = false := by simp; omega
  simp only [go_sem, *, Nat.reduceLT, Int.reduceEq, Int.reduceBEq, Int.reduceLE, Int.reduceLT, Nat.reduceAdd, Nat.reduceBEq, Nat.reduceEqDiff, reduceIte, Nat.reduceLeDiff, Nat.reduceMul, Nat.reduceSub, reduceCtorEq]
structure Held where
 b : Int
 x : Sp
 y : Sp
def heldC : Cd Held where
 enc p := .agg [.int .i64 p.b, .int .i64 p.x.lo, .int .i64 p.x.hi, .int .i64 p.y.lo, .int .i64 p.y.hi]
 dec a := match a with | .agg [.int .i64 b, .int .i64 x, .int .i64 y, .int .i64 z, .int .i64 w] => some ⟨b, ⟨x, y⟩, ⟨z, w⟩⟩ | _ => none
 de _ := rfl
 ed a x h := by split at h <;> cases h; rfl
 pur _ := rfl
theorem held_idx {a : AV} {l : List Held} (h : slV heldC a = some l) {k : Nat} {p : Held} (hp : l[k]? = some p) (H : Heap) : indexAddrV Tryz.prog H 173 a (.int .i64 ↑k) = some (.vptr [.int .i64 p.b, .int .i64 p.x.lo, .int .i64 p.x.hi, .int .i64 p.y.lo, .int .i64 p.y.hi]) :=
 (slV_is h).1.idx (x := heldC.enc p) Tryz.underlying173 ty_lay176 (by simp [hp]) rfl
theorem BltN.rdl {b : Nat} {h : Heap} {v : AV} {l : List Lim} (q : BltN b h v 3 (l.map limC.enc)) (hm : l.length <= maxL) : RdL h v l := by
 refine ⟨?_, q.blt.out, hm, q.blt.cells, q.blt.tup, ?_⟩
 ·rcases q with ⟨rfl, e⟩ | ⟨id, rfl, h1, h2, h3, h4⟩
  ·simp at e; subst e; rfl
  ·simp [lenS]
 ·intro k m hk hp hx
  have hkl : k < l.length := by
   rw [List.getElem?_eq_some_iff] at hk; exact hk.1
  rcases q with ⟨rfl, e⟩ | ⟨id, rfl, h1, h2, h3, h4⟩
  ·simp at e; subst e; simp at hkl
  ·refine ⟨.eptr id 3 k 0, ?_, fun f rnd e lm df up => ?_⟩
   ·have hg := (hx id h3).trans h1
    have hi : idxV (.int .i64 ↑k) (l.map limC.enc).length = some k := by simp [idxV, hkl]
    simp only [indexAddrV, Tryz.underlying226, ty_lay230, hi, hg, if_true, Nat.zero_add]
   ·have hg := (hx id h3).trans h1
    rw [mem_eptr]
    simp only [hg, List.getElem?_map, hk, Option.map_some, if_true, limC, AV.cells]
structure RdH (h : Heap) (v : AV) (l : List Held) : Prop where
 len : lenS v = some l.length
 out : outV (some v) = some v
 get : ∀ (k : Nat) (p : Held), l[k]? = some p -> ∀ hp : Heap, (∀ id, id < h.next -> hp.get id = h.get id) -> ∃ ptr, indexAddrV Tryz.prog hp 173 v (.int .i64 ↑k) = some ptr /\ ∀ f rnd e lm df up, (Fr.mk f rnd e lm hp df up).mem ptr = some ([.int .i64 p.b, .int .i64 p.x.lo, .int .i64 p.x.hi, .int .i64 p.y.lo, .int .i64 p.y.hi], 0)
theorem rdH_sl {h : Heap} {a : AV} {l : List Held} (q : slV heldC a = some l) : RdH h a l :=
 ⟨sl_len q, sl_out q, fun k p hp H _ => ⟨_, held_idx q hp H, fun f rnd e lm df up => mem_vptr ..⟩⟩
theorem rdH_row {h : Heap} {id off : Nat} {el : List AV} {l : List Held} (hg : h.get id = some (.rw 5 el)) (hid : id < h.next) (hl : (el.drop off).take l.length = l.map heldC.enc) (hle : off + l.length <= el.length) : RdH h (.row id off l.length) l := by
 refine ⟨by simp [lenS], rfl, fun k p hk hp hx => ?_⟩
 have hkl : k < l.length := (List.getElem?_eq_some_iff.1 hk).1
 have hg' := (hx id hid).trans hg
 have hi : idxV (.int .i64 ↑k) l.length = some k := by simp [idxV, hkl]
 refine ⟨.eptr id 5 (off + k) 0, ?_, fun f rnd e lm df up => ?_⟩
 ·simp only [indexAddrV, Tryz.underlying173, ty_lay176, hi, hg', if_true]
 ·have he : el[off + k]? = some (heldC.enc p) := by
   have : ((el.drop off).take l.length)[k]? = some (heldC.enc p) := by rw [hl]; simp [hk]
   rw [List.getElem?_take, if_pos hkl, List.getElem?_drop] at this
   exact this
  rw [mem_eptr]
  simp only [hg', he, if_true, heldC, AV.cells]
def ax0 (cx wx : Sp) (rs : List Rdg) (hs : List Held) : Ax := ⟨cx, wx, lims155 rs ++ hs.map fun p => (⟨p.b, p.x.lo, p.x.hi⟩ : Lim)⟩
def ax1 (cy wy : Sp) (rs : List Rdg) (hs : List Held) : Ax := ⟨cy, wy, lims156 rs ++ hs.map fun p => (⟨p.b, p.y.lo, p.y.hi⟩ : Lim)⟩
def knO : Option (List Sp) -> Option (List Sp) -> AV
 | some a, some b => .tuple [.agg [slN (a.map spC.enc), slN (b.map spC.enc)], .bool true]
 | _, _ => .tuple [.agg [.nilslice, .nilslice], .bool false]
theorem knO_no1 (x : Option (List Sp)) : knO none x = .tuple [.agg [.nilslice, .nilslice], .bool false] := by cases x <;> rfl
theorem knO_no2 (x : Option (List Sp)) : knO x none = .tuple [.agg [.nilslice, .nilslice], .bool false] := by cases x <;> rfl
def knV (A B : Ax) : AV := knO (boundsS A) (boundsS B)
theorem knV_def (A B : Ax) : knV A B = knO (boundsS A) (boundsS B) := rfl
def isKn (A B : Ax) (h : Heap) (r : COut) : Prop := ∃ h', (h.next <= h'.next /\ ∀ id, id < h.next -> h'.get id = h.get id) /\ r = .ret (knV A B) h' none
def bOk (A : Ax) (v : AV) : Prop := ∃ o, boundsS A = some o /\ v = slN (o.map spC.enc)
attribute [local irreducible] boundsS
theorem bOk.out {A : Ax} {v : AV} (h : bOk A v) : outV (some v) = some v /\ (∀ H, frz1 H v = some (v, H)) /\ v.cells = [v] /\ isTuple v = false := by
 obtain ⟨o, _, rfl⟩ := h
 cases o <;> exact ⟨rfl, fun _ => rfl, rfl, rfl⟩
theorem knV_ok {A B : Ax} {a b : AV} (h : bOk A a) (k : bOk B b) : knV A B = .tuple [.agg [a, b], .bool true] := by
 obtain ⟨o, e, rfl⟩ := h
 obtain ⟨p, f, rfl⟩ := k
 rw [knV_def, e, f]; rfl
theorem knV_no1 {A B : Ax} (h : boundsS A = none) : knV A B = .tuple [.agg [.nilslice, .nilslice], .bool false] := by
 rw [knV_def, h, knO_no1]
theorem knV_no2 {A B : Ax} (h : boundsS B = none) : knV A B = .tuple [.agg [.nilslice, .nilslice], .bool false] := by
 rw [knV_def, h, knO_no2]
theorem ia169_0 (H : Heap) (s : Tmp) (g off : Nat) : indexAddrV Tryz.prog H 169 (.lptr s g off) (.int .i64 0) = some (.lptr s g off) := by
 simp only [indexAddrV, Tryz.underlying169, ty_lay48]; rfl
theorem ia169_1 (H : Heap) (s : Tmp) (g off : Nat) : indexAddrV Tryz.prog H 169 (.lptr s g off) (.int .i64 1) = some (.lptr s g (off + 2)) := by
 simp only [indexAddrV, Tryz.underlying169, ty_lay48]; rfl
theorem ia147_0 (H : Heap) (id off : Nat) : indexAddrV Tryz.prog H 147 (.ptr id off) (.int .i64 0) = some (.ptr id off) := by
 simp only [indexAddrV, Tryz.underlying147, ty_lay146]; rfl
theorem ia147_1 (H : Heap) (id off : Nat) : indexAddrV Tryz.prog H 147 (.ptr id off) (.int .i64 1) = some (.ptr id (off + 1)) := by
 simp only [indexAddrV, Tryz.underlying147, ty_lay146]; rfl
def stg (A B : Ax) (k : Nat) (a b : AV) : Prop := (if 1 <= k then bOk A a else a = .nilslice) /\ (if 2 <= k then bOk B b else b = .nilslice)
set_option maxHeartbeats 1600000 in
theorem C103 (hc : c 103 = none) (hc5 : c 155 = none) (hc6 : c 156 = none) (hc7 : c 157 = none) (hc9 : c 191 = none) (hc2 : c 190 = some (pureFn sp190)) (sa mv ra ma : AV) (cx cy wx wy : Sp) (rs : List Rdg) (hs : List Held) (n : Nat) (m : Mp Blk) (hr : slV rdgC ra = some rs) (hm : RdH ⟨n, m⟩ ma hs) (hsum : rs.length + hs.length <= maxL) (hsa : sa.one = true) (hmv : mv.one = true) :
  ClR (dX c) 103 [.agg [sa, .int .i64 cx.lo, .int .i64 cx.hi, .int .i64 cy.lo, .int .i64 cy.hi, .int .i64 wx.lo, .int .i64 wx.hi, .int .i64 wy.lo, .int .i64 wy.hi, ra, mv], ma] ⟨n, m⟩ (isKn (ax0 cx wx rs hs) (ax1 cy wy rs hs) ⟨n, m⟩) := by
 have hlen := hm.len
 have hout := hm.out
 have hro := sl_out hr
 have HR := Lib.hid hr
 have HM := Lib.hid hm
 have hne1 : (n == n + 1) = false := by simp
 have hne2 : (n + 1 == n) = false := by simp
 clear hr hm
 refine ClR.walkD (c := _) hc Tryz.func103 rfl (by kernel_rfl) rfl ?_
 simp only [entryEnv, Nat.reduceAdd]
 repeat' (first | (apply U5; exact rfl; (focus (intro cl rd; simp only [go_sem, *, Nat.reduceLT, Int.reduceEq, Int.reduceBEq, Int.reduceLE, Int.reduceLT, Nat.reduceAdd, Nat.reduceBEq, Nat.reduceEqDiff, reduceIte, Nat.reduceLeDiff, Nat.reduceMul, Nat.reduceSub, reduceCtorEq, efV, Fr.deferE]; with_reducible rfl)); simp only [pM, pN]) | (apply W.drawQ (id := 9) (l1 := [0, 1, 2, 3, 4, 5, 6, 7, 8, 9]) (l2 := [10, 11, 12]); kernel_rfl; kernel_rfl; kernel_rfl; exact Z4) | refine go1 ?_ | refine go2 (fun hh => ?_) (fun hh => ?_) | fail)
 refine W.loopN 2 (fun k F => ∃ e lm pn pm a b, F = Fr.mk 103 false e lm ⟨pn, pm⟩ [(.func (.func 154) [] [.ptr n 0, .ptr (n + 1) 0], [])] none /\ stg (ax0 cx wx rs hs) (ax1 cy wy rs hs) k a b /\ pm.get n = some (.var [a, b]) /\ pm.get (n + 1) = some (.var [.bool false]) /\ (n + 2 <= pn /\ ∀ id, id < n -> pm.get id = m.get id) /\
  e.get 1 = some ma /\ e.get 4 = some (.ptr n 0) /\ e.get 5 = some (.ptr (n + 1) 0) /\ e.get 17 = some (.agg [.func (.func 155) [.agg [sa, .int .i64 cx.lo, .int .i64 cx.hi, .int .i64 cy.lo, .int .i64 cy.hi, .int .i64 wx.lo, .int .i64 wx.hi, .int .i64 wy.lo, .int .i64 wy.hi, ra, mv]] [], .func (.func 156) [.agg [sa, .int .i64 cx.lo, .int .i64 cx.hi, .int .i64 cy.lo, .int .i64 cy.hi, .int .i64 wx.lo, .int .i64 wx.hi, .int .i64 wy.lo, .int .i64 wy.hi, ra, mv]] []]) /\ e.get 18 = some (.int .i64 ↑k) /\ k <= 2) ?_ ?_
 ·have hinit : ∀ id, id < n -> ((m.set n (Blk.var [.nilslice, .nilslice])).set (n + 1) (.var [.bool false])).get id = m.get id := by
   intro id hid
   have e1 : (n == id) = false := by rw [beq_eq_false_iff_ne]; omega
   have e2 : (n + 1 == id) = false := by rw [beq_eq_false_iff_ne]; omega
   rw [get_set_lit _ _ _ _ e2, get_set_lit _ _ _ _ e1]
  refine ⟨_, _, _, _, .nilslice, .nilslice, rfl, by simp [stg], ?_, ?_, ⟨by omega, hinit⟩, ?_, ?_, ?_, ?_, ?_, ?_⟩
  clear hinit
  all_goals first | exact Z2 | (intro id hid; have e1 : (n == id) = false := by rw [beq_eq_false_iff_ne]; omega; have e2 : (n + 1 == id) = false := by rw [beq_eq_false_iff_ne]; omega; simp only [go_sem, *, Nat.reduceLT, Int.reduceEq, Int.reduceBEq, Int.reduceLE, Int.reduceLT, Nat.reduceAdd, Nat.reduceBEq, Nat.reduceEqDiff, reduceIte, Nat.reduceLeDiff, Nat.reduceMul, Nat.reduceSub, reduceCtorEq]; done) | simp [go_sem, *]
 rintro k F ⟨e, lm, pn, pm, a, b, rfl, hst, hg, hg1, hpx, h1, h4, h5, h17, h18, hk⟩
 have hk3 : k = 0 \/ k = 1 \/ k = 2 := by omega
 rcases hk3 with rfl | rfl | rfl
 ·replace h18 : e.get 18 = some (.int .i64 0) := h18
  have hw0 : IntKind.i64.wrap (0 + 1) = 1 := by decide
  have hiv : idxV (.int .i64 0) 2 = some 0 := rfl
  have hia := ia169_0
  have hib := ia147_0
  have hw1 : IntKind.i64.wrap 1 = 1 := by decide
  have hc1 := C155 c hc5 hc2 sa mv ra cx cy wx wy rs ⟨pn, pm⟩ HR.out hsa hmv
  unfold ClR isAx at hc1
  obtain ⟨r, hcl, hq, u, rfl, hB, hX⟩ := hc1
  obtain ⟨rfl, rfl⟩ : a = .nilslice /\ b = .nilslice := by simpa [stg] using hst
  have HA : RowKit.Hid True := Lib.hid trivial
  clear hst
  have HG := Lib.hid hg
  have HG1 := Lib.hid hg1
  clear hg hg1
  repeat' (first | (apply W.drawQ (id := 9) (l1 := [0, 1, 2, 3, 4, 5, 6, 7, 8, 9]) (l2 := [10, 11, 12]); kernel_rfl; kernel_rfl; kernel_rfl; exact Z4) | refine go1 ?_ | (apply U6; exact Z1; exact Z1; (focus (simp only [List.nil_append, List.append_nil]; first | exact hcl)); simp only [pM, pN, rR, rP]) | refine go2 (fun hh => ?_) (fun hh => ?_) | fail)
  refine W.loopN hs.length (fun j F => ∃ e lm hq u g, F = Fr.mk 103 false e lm hq [(.func (.func 154) [] [.ptr n 0, .ptr (n + 1) 0], [])] none /\ BltN pn hq u 3 ((lims155 rs ++ (hs.take j).map fun p => (⟨p.b, p.x.lo, p.x.hi⟩ : Lim)).map limC.enc) /\ (pn <= hq.next /\ ∀ id, id < pn -> hq.get id = (Heap.mk pn pm).get id) /\
   lm.get 8 = some (g, [.int .i64 cx.lo, .int .i64 cx.hi, .int .i64 wx.lo, .int .i64 wx.hi, u]) /\ e.get 8 = some (.lptr 8 g 0) /\ e.get 1 = some ma /\ e.get 4 = some (.ptr n 0) /\ e.get 5 = some (.ptr (n + 1) 0) /\ e.get 17 = some (.agg [.func (.func 155) [.agg [sa, .int .i64 cx.lo, .int .i64 cx.hi, .int .i64 cy.lo, .int .i64 cy.hi, .int .i64 wx.lo, .int .i64 wx.hi, .int .i64 wy.lo, .int .i64 wy.hi, ra, mv]] [], .func (.func 156) [.agg [sa, .int .i64 cx.lo, .int .i64 cx.hi, .int .i64 cy.lo, .int .i64 cy.hi, .int .i64 wx.lo, .int .i64 wx.hi, .int .i64 wy.lo, .int .i64 wy.hi, ra, mv]] []]) /\
   e.get 6 = some (.int .i64 0) /\ e.get 18 = some (.int .i64 0) /\ e.get 24 = some ma /\ e.get 25 = some (.int .i64 ↑hs.length) /\ e.get 26 = some (.int .i64 ↑j) /\ j <= hs.length) ?_ ?_
  ·refine ⟨_, _, _, _, nextGen lm 8, rfl, by simpa using hB, hX, ?_, ?_, ?_, ?_, ?_, ?_, ?_, ?_, ?_, ?_, ?_, ?_⟩ <;> first | (simp only [nextGen, go_sem, *, Nat.reduceLT, Int.reduceEq, Int.reduceBEq, Int.reduceLE, Int.reduceLT, Nat.reduceAdd, Nat.reduceBEq, Nat.reduceEqDiff, reduceIte, Nat.reduceLeDiff, Nat.reduceMul, Nat.reduceSub, reduceCtorEq]; done) | simp [nextGen, go_sem, *, Nat.reduceLT, Int.reduceEq, Int.reduceBEq, Int.reduceLE, Int.reduceLT, Nat.reduceAdd, Nat.reduceBEq, Nat.reduceEqDiff, reduceIte, Nat.reduceLeDiff, Nat.reduceMul, Nat.reduceSub, reduceCtorEq]
  clear hcl hB hX h1 h4 h5 h17 h18
  rintro j F ⟨e, lm, hq, u, g, rfl, hB, hX, hl8, h8, h1, h4, h5, h17, h6, h18, h24, h25, h26, hj⟩
  have hbo := hB.blt.out
  have hbc := hB.blt.cells
  have hbt := hB.blt.tup
  by_cases hlt : j < hs.length
  ·obtain ⟨p, hp'⟩ := get_some hlt
   obtain ⟨ptr, hptr, hmem⟩ := HM.out.get j p hp' hq (fun id hid => (hX.2 id (by have := hpx.1; simp only at hid; omega)).trans (hpx.2 id hid))
   have hd : decide ((j : Int) < (hs.length : Int)) = true := by simpa using hlt
   have hw := wrap_succ hlt (show hs.length <= maxL by omega)
   have hnx : (lims155 rs ++ (hs.take (j + 1)).map fun p => (⟨p.b, p.x.lo, p.x.hi⟩ : Lim)) = (lims155 rs ++ (hs.take j).map fun p => (⟨p.b, p.x.lo, p.x.hi⟩ : Lim)) ++ [(⟨p.b, p.x.lo, p.x.hi⟩ : Lim)] := by rw [take_next hp']; simp
   have hll : (((lims155 rs ++ (hs.take j).map fun p => (⟨p.b, p.x.lo, p.x.hi⟩ : Lim))).map limC.enc).length + 1 <= most := by
    simp only [lims155, List.length_map, List.length_append, List.length_take]; unfold most; unfold maxL at hsum; omega
   have HN := Lib.hid hnx
   clear hp' hnx
   repeat' (first | (apply W.drawQ (id := 9) (l1 := [0, 1, 2, 3, 4, 5, 6, 7, 8, 9]) (l2 := [10, 11, 12]); kernel_rfl; kernel_rfl; kernel_rfl; exact Z4) | (apply WO1.appendN (t := 226) (u := 226) (e := 230) (e' := 230) (sz := 3) (tl := []) (b := pn) (h0 := ⟨pn, pm⟩) (hb := hB) (hx := hX); exact Z1; exact rfl; (focus exact Z2); (focus exact Z2); (focus exact Z2); (focus (exact ty_row226)); exact Z1; (focus (intro v hv; simp at hv; rcases hv with rfl | rfl <;> rfl)); (focus (simp only [List.length_cons, List.length_nil]; exact hll)); (focus (simp)); (intro v' h' hB' ho' hX'; have hcc' := hB'.blt.cells; have htt' := hB'.blt.tup; simp only [AV.cells] at hcc'; simp only [isTuple] at htt'; simp only [pM, pN])) | refine go1 ?_ | refine go2 (fun hh => ?_) (fun hh => ?_) | fail)
   refine ⟨hlt, _, _, _, v', g, rfl, ?_, hX', ?_, ?_, ?_, ?_, ?_, ?_, ?_, ?_, ?_, ?_, ?_, by omega⟩
   ·rw [HN.out]; simpa [limC] using hB'
   all_goals exact Z2
  ·have hd : decide ((j : Int) < (hs.length : Int)) = false := by simpa using hlt
   have hjl : j = hs.length := by omega
   rw [hjl, List.take_length] at hB
   have hc1 := C157 c hc7 hc9 (ax0 cx wx rs hs) u hq (hB.rdl (by simp [lims155]; exact hsum))
   unfold ClR isBnd at hc1
   obtain ⟨r, hcl, hz, hzx, hzm⟩ := hc1
   have hcl : Cl (dX c) 157 [.agg [.int .i64 cx.lo, .int .i64 cx.hi, .int .i64 wx.lo, .int .i64 wx.hi, u]] hq r := hcl
   obtain ⟨zn, zm⟩ := hz
   have hzn : pn <= zn := Nat.le_trans hX.1 hzx.1
   have hzg : ∀ id, id < pn -> zm.get id = pm.get id := fun id hid => (hzx.2 id (Nat.lt_of_lt_of_le hid hX.1)).trans (hX.2 id hid)
   have hg := (hzg n (by omega)).trans HG.out
   have hg1 := (hzg (n + 1) (by omega)).trans HG1.out
   have HZG := Lib.hid hzg
   clear hjl hX hzx hzg
   cases hbs : boundsS (ax0 cx wx rs hs) with
   | some o =>
    rw [hbs] at hzm
    have hva : bOk (ax0 cx wx rs hs) (slN (o.map spC.enc)) := ⟨o, hbs, rfl⟩
    simp only at hzm
    subst hzm
    generalize slN (o.map spC.enc) = va at hcl hva
    obtain ⟨hvo, hvf, hvc, hvt⟩ := hva.out
    simp only [AV.cells] at hvc
    simp only [isTuple] at hvt
    have hva := Lib.hid hva
    clear hbs
    repeat' (first | (apply W.drawQ (id := 9) (l1 := [0, 1, 2, 3, 4, 5, 6, 7, 8, 9]) (l2 := [10, 11, 12]); kernel_rfl; kernel_rfl; kernel_rfl; exact Z4) | refine go1 ?_ | (apply U6; exact Z1; exact Z1; (focus (simp only [List.nil_append, List.append_nil]; first | exact hcl)); simp only [pM, pN, rR, rP]) | refine go2 (fun hh => ?_) (fun hh => ?_) | fail)
    have hini : ∀ v id, id < n -> (zm.set n v).get id = m.get id := by
     intro v id hid
     have e1 : (n == id) = false := by rw [beq_eq_false_iff_ne]; omega
     rw [get_set_lit _ _ _ _ e1, HZG.out id (by omega)]
     exact hpx.2 id hid
    refine ⟨by omega, _, _, _, _, va, .nilslice, rfl, by simp [stg]; exact hva.out, ?_, ?_, ⟨by omega, hini _⟩, ?_, ?_, ?_, ?_, ?_, by omega⟩
    all_goals (clear hini; first | exact Z2 | simp [go_sem, *])
   | none =>
    rw [hbs] at hzm
    obtain ⟨bb, hzm⟩ := hzm
    subst hzm
    have HBS := Lib.hid hbs
    clear hbs
    repeat' (first | (apply W.drawQ (id := 9) (l1 := [0, 1, 2, 3, 4, 5, 6, 7, 8, 9]) (l2 := [10, 11, 12]); kernel_rfl; kernel_rfl; kernel_rfl; exact Z4) | (simp only [endD_pan]) | refine go1 ?_ | (apply U6; exact Z1; exact Z1; (focus (simp only [List.nil_append, List.append_nil]; first | exact hcl)); simp only [pM, pN, rR, rP]) | refine go2 (fun hh => ?_) (fun hh => ?_) | fail)
    refine D154p c n zn zm .nilslice .nilslice bb _ hg hg1 fun m' q1 q2 q3 => afterD_none.2 ⟨⟨zn, m'⟩, ⟨by simp only; omega, fun id hid => (q3 id hid).trans ((HZG.out id (by simp only at hid; omega)).trans (hpx.2 id hid))⟩, ?_⟩
    rw [knV_no1 HBS.out]
    (simp only [resV_def (X := dX c) Tryz.func103, Tryz.results103]; first | exact J5 | refine J6 ?_)
 ·replace h18 : e.get 18 = some (.int .i64 1) := h18
  have hw0 : IntKind.i64.wrap (1 + 1) = 2 := by decide
  have hiv : idxV (.int .i64 1) 2 = some 1 := rfl
  have hia := ia169_1
  have hib := ia147_1
  have hw1 : IntKind.i64.wrap 2 = 2 := by decide
  have hc1 := C156 c hc6 hc2 sa mv ra cx cy wx wy rs ⟨pn, pm⟩ HR.out hsa hmv
  unfold ClR isAx at hc1
  obtain ⟨r, hcl, hq, u, rfl, hB, hX⟩ := hc1
  obtain ⟨hA, rfl⟩ : bOk (ax0 cx wx rs hs) a /\ b = .nilslice := by simpa [stg] using hst
  obtain ⟨hao, hafz, hac, hat⟩ := hA.out
  simp only [AV.cells] at hac
  simp only [isTuple] at hat
  have HA := Lib.hid hA
  clear hA
  clear hst
  have HG := Lib.hid hg
  have HG1 := Lib.hid hg1
  clear hg hg1
  repeat' (first | (apply W.drawQ (id := 9) (l1 := [0, 1, 2, 3, 4, 5, 6, 7, 8, 9]) (l2 := [10, 11, 12]); kernel_rfl; kernel_rfl; kernel_rfl; exact Z4) | refine go1 ?_ | (apply U6; exact Z1; exact Z1; (focus (simp only [List.nil_append, List.append_nil]; first | exact hcl)); simp only [pM, pN, rR, rP]) | refine go2 (fun hh => ?_) (fun hh => ?_) | fail)
  refine W.loopN hs.length (fun j F => ∃ e lm hq u g, F = Fr.mk 103 false e lm hq [(.func (.func 154) [] [.ptr n 0, .ptr (n + 1) 0], [])] none /\ BltN pn hq u 3 ((lims156 rs ++ (hs.take j).map fun p => (⟨p.b, p.y.lo, p.y.hi⟩ : Lim)).map limC.enc) /\ (pn <= hq.next /\ ∀ id, id < pn -> hq.get id = (Heap.mk pn pm).get id) /\
   lm.get 8 = some (g, [.int .i64 cy.lo, .int .i64 cy.hi, .int .i64 wy.lo, .int .i64 wy.hi, u]) /\ e.get 8 = some (.lptr 8 g 0) /\ e.get 1 = some ma /\ e.get 4 = some (.ptr n 0) /\ e.get 5 = some (.ptr (n + 1) 0) /\ e.get 17 = some (.agg [.func (.func 155) [.agg [sa, .int .i64 cx.lo, .int .i64 cx.hi, .int .i64 cy.lo, .int .i64 cy.hi, .int .i64 wx.lo, .int .i64 wx.hi, .int .i64 wy.lo, .int .i64 wy.hi, ra, mv]] [], .func (.func 156) [.agg [sa, .int .i64 cx.lo, .int .i64 cx.hi, .int .i64 cy.lo, .int .i64 cy.hi, .int .i64 wx.lo, .int .i64 wx.hi, .int .i64 wy.lo, .int .i64 wy.hi, ra, mv]] []]) /\
   e.get 6 = some (.int .i64 1) /\ e.get 18 = some (.int .i64 1) /\ e.get 24 = some ma /\ e.get 25 = some (.int .i64 ↑hs.length) /\ e.get 26 = some (.int .i64 ↑j) /\ j <= hs.length) ?_ ?_
  ·refine ⟨_, _, _, _, nextGen lm 8, rfl, by simpa using hB, hX, ?_, ?_, ?_, ?_, ?_, ?_, ?_, ?_, ?_, ?_, ?_, ?_⟩ <;> first | (simp only [nextGen, go_sem, *, Nat.reduceLT, Int.reduceEq, Int.reduceBEq, Int.reduceLE, Int.reduceLT, Nat.reduceAdd, Nat.reduceBEq, Nat.reduceEqDiff, reduceIte, Nat.reduceLeDiff, Nat.reduceMul, Nat.reduceSub, reduceCtorEq]; done) | simp [nextGen, go_sem, *, Nat.reduceLT, Int.reduceEq, Int.reduceBEq, Int.reduceLE, Int.reduceLT, Nat.reduceAdd, Nat.reduceBEq, Nat.reduceEqDiff, reduceIte, Nat.reduceLeDiff, Nat.reduceMul, Nat.reduceSub, reduceCtorEq]
  clear hcl hB hX h1 h4 h5 h17 h18
  rintro j F ⟨e, lm, hq, u, g, rfl, hB, hX, hl8, h8, h1, h4, h5, h17, h6, h18, h24, h25, h26, hj⟩
  have hbo := hB.blt.out
  have hbc := hB.blt.cells
  have hbt := hB.blt.tup
  by_cases hlt : j < hs.length
  ·obtain ⟨p, hp'⟩ := get_some hlt
   obtain ⟨ptr, hptr, hmem⟩ := HM.out.get j p hp' hq (fun id hid => (hX.2 id (by have := hpx.1; simp only at hid; omega)).trans (hpx.2 id hid))
   have hd : decide ((j : Int) < (hs.length : Int)) = true := by simpa using hlt
   have hw := wrap_succ hlt (show hs.length <= maxL by omega)
   have hnx : (lims156 rs ++ (hs.take (j + 1)).map fun p => (⟨p.b, p.y.lo, p.y.hi⟩ : Lim)) = (lims156 rs ++ (hs.take j).map fun p => (⟨p.b, p.y.lo, p.y.hi⟩ : Lim)) ++ [(⟨p.b, p.y.lo, p.y.hi⟩ : Lim)] := by rw [take_next hp']; simp
   have hll : (((lims156 rs ++ (hs.take j).map fun p => (⟨p.b, p.y.lo, p.y.hi⟩ : Lim))).map limC.enc).length + 1 <= most := by
    simp only [lims156, List.length_map, List.length_append, List.length_take]; unfold most; unfold maxL at hsum; omega
   have HN := Lib.hid hnx
   clear hp' hnx
   repeat' (first | (apply W.drawQ (id := 9) (l1 := [0, 1, 2, 3, 4, 5, 6, 7, 8, 9]) (l2 := [10, 11, 12]); kernel_rfl; kernel_rfl; kernel_rfl; exact Z4) | (apply WO1.appendN (t := 226) (u := 226) (e := 230) (e' := 230) (sz := 3) (tl := []) (b := pn) (h0 := ⟨pn, pm⟩) (hb := hB) (hx := hX); exact Z1; exact rfl; (focus exact Z2); (focus exact Z2); (focus exact Z2); (focus (exact ty_row226)); exact Z1; (focus (intro v hv; simp at hv; rcases hv with rfl | rfl <;> rfl)); (focus (simp only [List.length_cons, List.length_nil]; exact hll)); (focus (simp)); (intro v' h' hB' ho' hX'; have hcc' := hB'.blt.cells; have htt' := hB'.blt.tup; simp only [AV.cells] at hcc'; simp only [isTuple] at htt'; simp only [pM, pN])) | refine go1 ?_ | refine go2 (fun hh => ?_) (fun hh => ?_) | fail)
   refine ⟨hlt, _, _, _, v', g, rfl, ?_, hX', ?_, ?_, ?_, ?_, ?_, ?_, ?_, ?_, ?_, ?_, ?_, by omega⟩
   ·rw [HN.out]; simpa [limC] using hB'
   all_goals exact Z2
  ·have hd : decide ((j : Int) < (hs.length : Int)) = false := by simpa using hlt
   have hjl : j = hs.length := by omega
   rw [hjl, List.take_length] at hB
   have hc1 := C157 c hc7 hc9 (ax1 cy wy rs hs) u hq (hB.rdl (by simp [lims156]; exact hsum))
   unfold ClR isBnd at hc1
   obtain ⟨r, hcl, hz, hzx, hzm⟩ := hc1
   have hcl : Cl (dX c) 157 [.agg [.int .i64 cy.lo, .int .i64 cy.hi, .int .i64 wy.lo, .int .i64 wy.hi, u]] hq r := hcl
   obtain ⟨zn, zm⟩ := hz
   have hzn : pn <= zn := Nat.le_trans hX.1 hzx.1
   have hzg : ∀ id, id < pn -> zm.get id = pm.get id := fun id hid => (hzx.2 id (Nat.lt_of_lt_of_le hid hX.1)).trans (hX.2 id hid)
   have hg := (hzg n (by omega)).trans HG.out
   have hg1 := (hzg (n + 1) (by omega)).trans HG1.out
   have HZG := Lib.hid hzg
   clear hjl hX hzx hzg
   cases hbs : boundsS (ax1 cy wy rs hs) with
   | some o =>
    rw [hbs] at hzm
    have hva : bOk (ax1 cy wy rs hs) (slN (o.map spC.enc)) := ⟨o, hbs, rfl⟩
    simp only at hzm
    subst hzm
    generalize slN (o.map spC.enc) = va at hcl hva
    obtain ⟨hvo, hvf, hvc, hvt⟩ := hva.out
    simp only [AV.cells] at hvc
    simp only [isTuple] at hvt
    have hva := Lib.hid hva
    clear hbs
    repeat' (first | (apply W.drawQ (id := 9) (l1 := [0, 1, 2, 3, 4, 5, 6, 7, 8, 9]) (l2 := [10, 11, 12]); kernel_rfl; kernel_rfl; kernel_rfl; exact Z4) | refine go1 ?_ | (apply U6; exact Z1; exact Z1; (focus (simp only [List.nil_append, List.append_nil]; first | exact hcl)); simp only [pM, pN, rR, rP]) | refine go2 (fun hh => ?_) (fun hh => ?_) | fail)
    have hini : ∀ v id, id < n -> (zm.set n v).get id = m.get id := by
     intro v id hid
     have e1 : (n == id) = false := by rw [beq_eq_false_iff_ne]; omega
     rw [get_set_lit _ _ _ _ e1, HZG.out id (by omega)]
     exact hpx.2 id hid
    refine ⟨by omega, _, _, _, _, a, va, rfl, by simp [stg]; exact ⟨HA.out, hva.out⟩, ?_, ?_, ⟨by omega, hini _⟩, ?_, ?_, ?_, ?_, ?_, by omega⟩
    all_goals (clear hini; first | exact Z2 | simp [go_sem, *])
   | none =>
    rw [hbs] at hzm
    obtain ⟨bb, hzm⟩ := hzm
    subst hzm
    have HBS := Lib.hid hbs
    clear hbs
    repeat' (first | (apply W.drawQ (id := 9) (l1 := [0, 1, 2, 3, 4, 5, 6, 7, 8, 9]) (l2 := [10, 11, 12]); kernel_rfl; kernel_rfl; kernel_rfl; exact Z4) | (simp only [endD_pan]) | refine go1 ?_ | (apply U6; exact Z1; exact Z1; (focus (simp only [List.nil_append, List.append_nil]; first | exact hcl)); simp only [pM, pN, rR, rP]) | refine go2 (fun hh => ?_) (fun hh => ?_) | fail)
    refine D154p c n zn zm a .nilslice bb _ hg hg1 fun m' q1 q2 q3 => afterD_none.2 ⟨⟨zn, m'⟩, ⟨by simp only; omega, fun id hid => (q3 id hid).trans ((HZG.out id (by simp only at hid; omega)).trans (hpx.2 id hid))⟩, ?_⟩
    rw [knV_no2 HBS.out]
    (simp only [resV_def (X := dX c) Tryz.func103, Tryz.results103]; first | exact J5 | refine J6 ?_)
 ·replace h18 : e.get 18 = some (.int .i64 2) := h18
  obtain ⟨hA, hB⟩ : bOk (ax0 cx wx rs hs) a /\ bOk (ax1 cy wy rs hs) b := by simpa [stg] using hst
  obtain ⟨hao, hafz, hac, hat⟩ := hA.out
  obtain ⟨hbo, hbfz, hbc, hbt⟩ := hB.out
  have HA := Lib.hid hA
  have HB := Lib.hid hB
  have HPX := Lib.hid hpx
  clear hst hA hB hpx
  repeat' (first | (apply W.drawQ (id := 9) (l1 := [0, 1, 2, 3, 4, 5, 6, 7, 8, 9]) (l2 := [10, 11, 12]); kernel_rfl; kernel_rfl; kernel_rfl; exact Z4) | (refine Y7 ?_; simp only [endD_ret]) | refine go1 ?_ | refine go2 (fun hh => ?_) (fun hh => ?_) | fail)
  refine D154n c n _ _ _ ?_
  refine afterD_none.2 ⟨⟨pn, (pm.set n (.var [a, b])).set (n + 1) (.var [.bool true])⟩, ?_, ?_⟩
  rotate_left
  ·rw [knV_ok HA.out HB.out]
   (simp only [resV_def (X := dX c) Tryz.func103, Tryz.results103]; first | exact J5 | refine J6 ?_)
  ·refine ⟨by simp only; have := HPX.out.1; omega, fun id hid => ?_⟩
   have hid : id < n := hid
   have e1 : (n == id) = false := by rw [beq_eq_false_iff_ne]; omega
   have e2 : (n + 1 == id) = false := by rw [beq_eq_false_iff_ne]; omega
   rw [hp_get, hp_get, get_set_lit _ _ _ _ e2, get_set_lit _ _ _ _ e1]
   exact HPX.out.2 id hid
end Go.AM
namespace Go.AM
open Go Go.Proofs
variable [Keep]
attribute [local irreducible] W WO WO1 WD WQ WT thenQ blockQ endR isRet retK Cl ClR
def sp103 : List AV -> Option AV
 | [.agg [sa, .int .i64 cxl, .int .i64 cxh, .int .i64 cyl, .int .i64 cyh, .int .i64 wxl, .int .i64 wxh, .int .i64 wyl, .int .i64 wyh, ra, mv], ma] =>
  match slV rdgC ra, slV heldC ma with
  | some rs, some hs => if (Nat.ble (rs.length + hs.length) maxL && sa.one && mv.one) = true then some (knV (ax0 ⟨cxl, cxh⟩ ⟨wxl, wxh⟩ rs hs) (ax1 ⟨cyl, cyh⟩ ⟨wyl, wyh⟩ rs hs)) else none
  | _, _ => none
 | _ => none
theorem slN_purL {l : List AV} (h : ∀ a ∈ l, a.pur = true) : (slN l).pur = true := by
 cases l with
 | nil => rfl
 | cons a l => exact purL_mem.2 h
theorem spL_pur (l : List Sp) : (slN (l.map spC.enc)).pur = true := slN_purL fun a ha => by
 obtain ⟨p, _, rfl⟩ := List.mem_map.1 ha
 rfl
theorem knV_pur (A B : Ax) : (knV A B).pur = true := by
 rw [knV_def]
 cases h1 : boundsS A <;> cases h2 : boundsS B <;> simp only [knO, AV.pur, AV.purL, spL_pur, Bool.and_self]
theorem p103 : ∀ args v, sp103 args = some v -> v.pur = true := by
 intro args v h
 unfold sp103 at h
 split at h
 ·split at h
  ·split at h
   ·cases h; exact knV_pur _ _
   ·cases h
  ·cases h
 ·cases h
noncomputable def cN : Itr
 | 190 => some (pureFn sp190)
 | _ => none
theorem cN_sound : Sound (dX cN) := dX_sound (fun f g h => by
 unfold cN at h
 split at h
 ·cases h; exact F190
 ·cases h)
end Go.AM
namespace Go.AM
open Go Go.Proofs
variable [Keep]
end Go.AM
namespace Go.AM
open Go Go.Proofs
variable [Keep]
def onHeap (spec : List AV -> Heap -> Option AV) : List AV -> Heap -> Option (AV × Heap) := fun args h => match spec args h with | some v => some (v, h) | none => none
def Part (m : Mp Blk) (h : Heap) : Prop := ∀ id b, m.get id = some b -> h.get id = some b /\ ∃ sz el, b = .rw sz el /\ ∀ e ∈ el, e.pur = true
theorem BR.pur {C D : Cfg} {w : World} {L : Loc} {sz : Nat} {el : List AV} (k : BR C w L (.rw sz el)) (hs : ∀ x u, C.sig x = some u -> D.sig x = some u) (hp : ∀ e ∈ el, e.pur = true) : BR D w L (.rw sz el) := by
 obtain ⟨c, h1, h2, h3, h4, h5⟩ := k
 refine ⟨c, h1, h2, h3, h4, fun i e hi => ?_⟩
 obtain ⟨g1, g2, g3⟩ := h5 i e hi
 refine ⟨g1, g2, fun j x hj => ?_⟩
 obtain ⟨v, k1, k2⟩ := g3 j x hj
 refine ⟨v, k1, k2.pur hs ?_⟩
 have hjl := (List.getElem?_eq_some_iff.1 hj).1
 have := pur_cells (hp e (List.mem_of_getElem? hi)) hjl
 simpa [List.getD, hj] using this
theorem WR.part {C : Cfg} {h : Heap} {w : World} (r : WR C h w) {m : Mp Blk} (hm : Part m h) : WR C ⟨h.next, m⟩ w :=
 ⟨r.sig, fun id blk e => r.blk id blk (hm id blk e).1, fun id id' blk blk' L L' e e' => r.inj id id' blk blk' L L' (hm _ _ e).1 (hm _ _ e').1, fun id blk L x v e => r.apart id blk L x v (hm _ _ e).1, r.fresh, r.base⟩
theorem Live.part {C : Cfg} {h : Heap} {m : Mp Blk} (hm : Part m h) {b : Nat} (l : Live C ⟨h.next, m⟩ b) : Live C h b := by
 obtain ⟨id, blk, L, e, q⟩ := l
 exact ⟨id, blk, L, (hm _ _ e).1, q⟩
theorem row_intr {X : Ctx} (s : Sound X) {f : FuncId} {spec : List AV -> Heap -> Option AV} (hp : ∀ args h v, spec args h = some v -> v.pur = true)
    (hr : ∀ args h v, (∀ id b, h.get id = some b -> id < h.next) -> spec args h = some v -> ∃ m, Part m h /\ ∃ h' k, callF X (ev X k) f args ⟨h.next, m⟩ = .ret v h' none /\ ∀ id b, m.get id = some b -> h'.get id = some b) : IntrFn X.P f (onHeap spec) := by
  intro args h v h' hg C w vs r hv
  unfold onHeap at hg
  split at hg
  · rename_i u hsp
    cases hg
    have hfr : ∀ id b, h.get id = some b -> id < h.next := fun id b e => by
      obtain ⟨L, k1, _⟩ := r.blk id b e
      exact r.fresh id L k1
    obtain ⟨m, hm, h1, n, hcall, hkeep⟩ := hr args h v hfr hsp
    have hok := s.call n f args ⟨h.next, m⟩ C w vs (r.part hm) hv (by rw [hcall]; intro e; cases e)
    refine ⟨hok.1, fun cs => ?_⟩
    have := hok.2 cs
    rw [hcall] at this
    obtain ⟨C', w', fr, u, q1, q2, q3, q4, q5, q6⟩ := this
    have hle : C.le ⟨C.mu, C'.sig⟩ := ⟨fun _ _ h => h, q6.le.sig⟩
    have hsame : ∀ β, β < w.heap.size -> ¬ Live C ⟨h.next, m⟩ β -> w'.heap[β]? = w.heap[β]? := fun β hb hl => q6.same β hb hl id
    refine ⟨⟨C.mu, C'.sig⟩, w', fr, u, q1, q2, q3, q4.pur (fun _ _ h => h) (hp _ _ _ hsp), ⟨q5.sig, fun id blk e => ?_, r.inj, fun id blk L x u e1 e2 e3 e4 => ?_, r.fresh, q5.base⟩, ?_⟩
    · obtain ⟨L, k1, k2⟩ := r.blk id blk e
      refine ⟨L, k1, ?_⟩
      by_cases hmi : m.get id = some blk
      · obtain ⟨_, sz, el, rfl, hpe⟩ := hm id blk hmi
        obtain ⟨L', g1, g2⟩ := q5.blk id _ (hkeep id _ hmi)
        rw [q6.le.mu _ _ k1] at g1
        cases g1
        exact g2.pur (fun _ _ h => h) hpe
      · refine k2.same hle (hsame _ k2.lt ?_)
        rintro ⟨id', blk', L', e', e2, e3⟩
        have he' := (hm id' blk' e').1
        have := r.inj id id' blk blk' L L' e he' k1 e2 e3.symm
        subst this
        rw [e] at he'
        cases he'
        exact hmi e'
    · obtain ⟨L', k1, k2⟩ := r.blk id blk e1
      rw [e2] at k1
      cases k1
      have hlt := k2.lt
      rcases q6.sig x u (by rw [e4]; exact hlt) e3 with g | g | g
      · exact r.apart id blk L x u e1 e2 g e4
      · obtain ⟨id', blk', L', g1, g2, g3⟩ := g
        exact q5.apart id' blk' L' x u (hkeep _ _ g1) (q6.le.mu _ _ g2) e3 g3.symm
      · exact g.elim
    · exact { le := hle, os := q6.os, tape := q6.tape, output := q6.output, size := q6.size, same := fun β hb hl _ => hsame β hb (fun l => hl (l.part hm)), live := fun β hb l => .inl (by
                obtain ⟨id, blk, L, e1, e2, e3⟩ := l
                exact ⟨id, blk, L, e1, e2, e3⟩)
              own := fun _ _ o => o.elim, sig := fun x u hb e => (by
                rcases q6.sig x u hb e with g | g | g
                · exact .inl g
                · exact .inr (.inl (g.part hm))
                · exact g.elim), next := Nat.le_refl _ }
  · cases hg
end Go.AM
