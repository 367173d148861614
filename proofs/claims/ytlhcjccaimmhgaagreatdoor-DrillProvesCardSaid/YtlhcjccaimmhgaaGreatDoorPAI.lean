/-
  Texts of the proof: an evaluator of the program's code, its soundness, contracts of functions.
-/
import Derived.Test.YtlhcjccaimmhgaaGreatDoorPAH
import Derived.Test.YtlhcjccaimmhgaaGreatDoorPAF
import Derived.Shelf.LaysM
import Derived.Test.YtlhcjccaimmhgaaGreatDoorProg
import Derived.KernelRfl
set_option linter.unusedSectionVars false
set_option linter.unusedVariables false
set_option linter.unusedSimpArgs false
set_option maxRecDepth 100000
namespace Go.AM
open Go Go.Proofs
variable [Keep]
attribute [local irreducible] W WO WO1 WD WQ WT thenQ blockQ endR isRet retK Cl ClR
structure Lim where
  b : Int
  lo : Int
  hi : Int
def limC : Cd Lim where
  enc p := .agg [.int .i64 p.b, .int .i64 p.lo, .int .i64 p.hi]
  dec a := match a with | .agg [.int .i64 x, .int .i64 y, .int .i64 z] => some ⟨x, y, z⟩ | _ => none
  de _ := rfl
  ed a x h := by split at h <;> cases h; rfl
  pur _ := rfl
structure Ax where
  chuck : Sp
  wear : Sp
  limits : List Lim
def Lim.sp (m : Lim) : Sp := ⟨m.lo, m.hi⟩
def empS (s : Sp) : Bool := decide (s.lo > s.hi)
def limS (b : Int) : List Lim → Sp → Option Sp
  | [], s => some s
  | m :: r, s => if m.b == b then (if empS (interS s m.sp) then none else limS b r (interS s m.sp)) else limS b r s
def nxtS (ax : Ax) (p : Sp) : Sp := ⟨w64 (p.lo + ax.wear.lo), w64 (p.hi + ax.wear.hi)⟩
def prvS (ax : Ax) (p : Sp) : Sp := ⟨w64 (p.lo - ax.wear.hi), w64 (p.hi - ax.wear.lo)⟩
def startS (ax : Ax) (out : List Sp) (k : Nat) : Sp := if k = 0 then ax.chuck else nxtS ax (out.getD (k - 1) ⟨0, 0⟩)
def fwdS (ax : Ax) : Nat → Option (List Sp)
  | 0 => some []
  | k + 1 => match fwdS ax k with
    | none => none
    | some out => match limS k ax.limits (startS ax out k) with
      | none => none
      | some s => some (out ++ [s])
def bwdS (ax : Ax) : Nat → List Sp → Option (List Sp)
  | 0, out => some out
  | n + 1, out => if empS (interS (out.getD n ⟨0, 0⟩) (prvS ax (out.getD (n + 1) ⟨0, 0⟩))) then none else bwdS ax n (out.set n (interS (out.getD n ⟨0, 0⟩) (prvS ax (out.getD (n + 1) ⟨0, 0⟩))))
def boundsS (ax : Ax) : Option (List Sp) := match fwdS ax 13 with | none => none | some out => bwdS ax 12 out
theorem fwdS_len (ax : Ax) : ∀ (k : Nat) (out : List Sp), fwdS ax k = some out → out.length = k := by
  intro k
  induction k with
  | zero => intro out h; simp [fwdS] at h; subst h; rfl
  | succ k ih =>
    intro out h
    simp only [fwdS] at h
    split at h
    · cases h
    · rename_i o ho
      split at h
      · cases h
      · cases h; simp [ih o ho]
theorem fwdS_stop (ax : Ax) (k : Nat) (h : fwdS ax k = none) : ∀ j, fwdS ax (k + j) = none := by
  intro j
  induction j with
  | zero => exact h
  | succ j ih =>
    show fwdS ax ((k + j) + 1) = none
    simp only [fwdS, ih]
theorem bounds_none (ax : Ax) {k : Nat} {out : List Sp} (hk : k < 13) (ho : fwdS ax k = some out) (hl : limS k ax.limits (startS ax out k) = none) : boundsS ax = none := by
  have : fwdS ax (k + 1) = none := by simp only [fwdS, ho, hl]
  have := fwdS_stop ax _ this (12 - k)
  rw [show k + 1 + (12 - k) = 13 from by omega] at this
  simp only [boundsS, this]
structure RdL (h : Heap) (v : AV) (l : List Lim) : Prop where
  len : lenS v = some l.length
  out : outV (some v) = some v
  max : l.length ≤ maxL
  one : v.cells = [v]
  tup : isTuple v = false
  get : ∀ (k : Nat) (m : Lim), l[k]? = some m → ∀ hp : Heap, (∀ id, id < h.next → hp.get id = h.get id) → ∃ ptr, indexAddrV Tryz.prog hp 226 v (.int .i64 ↑k) = some ptr ∧ ∀ f rnd e lm df up, (Fr.mk f rnd e lm hp df up).mem ptr = some ([.int .i64 m.b, .int .i64 m.lo, .int .i64 m.hi], 0)
def isBnd (ax : Ax) (h : Heap) (r : COut) : Prop := ∃ h', HExt h h' ∧ match boundsS ax with
  | some out => r = .ret (slN (out.map spC.enc)) h' none
  | none => ∃ b : Int, r = .pan (.iface 223 (.agg [.int .i64 b])) h' none
theorem isBnd_fail {ax : Ax} {h : Heap} : ¬ isBnd ax h .fail := by
  rintro ⟨h', _, q⟩
  split at q
  · cases q
  · obtain ⟨b, e⟩ := q; cases e
theorem isBnd_pan {ax : Ax} {h hp : Heap} {b : Int} (e : boundsS ax = none) (hx : h.next ≤ hp.next ∧ ∀ id, id < h.next → hp.get id = h.get id) : isBnd ax h (.pan (.iface 223 (.agg [.int .i64 b])) hp none) := ⟨hp, hx, by rw [e]; exact ⟨b, rfl⟩⟩
theorem limS_cons (b : Int) (m : Lim) (r : List Lim) (s : Sp) : limS b (m :: r) s = if m.b == b then (if empS (interS s m.sp) then none else limS b r (interS s m.sp)) else limS b r s := rfl
theorem limS_nil (b : Int) (s : Sp) : limS b [] s = some s := rfl
theorem comR_pan {b : Int} {s p : Sp} {h : Heap} (he : empS (interS s p) = true) : comR b s [p] h = .pan (.iface 223 (.agg [.int .i64 b])) h none := if_pos (by simpa [empS] using he)
theorem comR_ret {b : Int} {s p : Sp} {h : Heap} (he : empS (interS s p) = false) : comR b s [p] h = .ret (.agg [.int .i64 (interS s p).lo, .int .i64 (interS s p).hi]) h none := if_neg (by simpa [empS] using he)
theorem bwdS_succ (ax : Ax) (n : Nat) (out : List Sp) : bwdS ax (n + 1) out = if empS (interS (out.getD n ⟨0, 0⟩) (prvS ax (out.getD (n + 1) ⟨0, 0⟩))) then none else bwdS ax n (out.set n (interS (out.getD n ⟨0, 0⟩) (prvS ax (out.getD (n + 1) ⟨0, 0⟩)))) := rfl
theorem boundsS_def (ax : Ax) : boundsS ax = match fwdS ax 13 with | none => none | some out => bwdS ax 12 out := rfl
theorem isBnd_ret {ax : Ax} {h hp : Heap} {out : List Sp} (e : boundsS ax = some out) (hs : slN (out.map spC.enc) = .vslice (out.map spC.enc)) (hx : h.next ≤ hp.next ∧ ∀ id, id < h.next → hp.get id = h.get id) : isBnd ax h (.ret (.vslice (out.map spC.enc)) hp none) := ⟨hp, hx, by rw [e]; simp only; rw [hs]⟩
attribute [local irreducible] isBnd boundsS fwdS limS
set_option maxHeartbeats 1600000 in
theorem C157 (c : FuncId → Option (List AV → Heap → Option (AV × Heap))) (hc : c 157 = none) (hc2 : c 191 = none) (ax : Ax) (v : AV) (h : Heap) (hv : RdL h v ax.limits) :
    ClR (dX c) 157 [.agg [.int .i64 ax.chuck.lo, .int .i64 ax.chuck.hi, .int .i64 ax.wear.lo, .int .i64 ax.wear.hi, v]] h (isBnd ax h) := by
  have hlen := hv.len
  have hout := hv.out
  have hmax := hv.max
  have hone := hv.one
  have htup := hv.tup
  have HV := Lib.hid hv
  clear hv
  refine ClR.walk (c := _) hc Tryz.func157 rfl (by kernel_rfl) rfl isBnd_fail ?_
  simp only [entryEnv, Nat.reduceAdd]
  repeat' (first | (apply W.drawQ (id := 7) (l1 := [0, 1, 2, 3, 4, 5, 6, 7, 8, 9, 10, 11, 12, 13, 14, 15, 16, 17, 18, 19, 20]) (l2 := [21]); kernel_rfl; kernel_rfl; kernel_rfl; exact Z4) | (apply W.drawQ (id := 20) (l1 := [0, 1, 2, 3, 4, 5, 6, 7, 8, 9, 10, 11, 12, 13, 14, 15, 16, 17, 18, 19, 20, 21, 22]) (l2 := [23]); kernel_rfl; kernel_rfl; kernel_rfl; exact Z4) | refine go1 ?_ | refine go2 (fun hh => ?_) (fun hh => ?_) | fail)
  refine W.loopN 13 (fun k F => ∃ e lm hp u out, F = Fr.mk 157 false e lm hp [] none ∧ fwdS ax k = some out ∧ BltN h.next hp u 2 (out.map spC.enc) ∧ (h.next ≤ hp.next ∧ ∀ id, id < h.next → hp.get id = h.get id) ∧
    lm.get 1 = some (0, [.int .i64 ax.chuck.lo, .int .i64 ax.chuck.hi, .int .i64 ax.wear.lo, .int .i64 ax.wear.hi, v]) ∧ e.get 1 = some (.lptr 1 0 0) ∧ e.get 3 = some u ∧ e.get 10 = some (.int .i64 ↑k) ∧ k ≤ 13) ?_ ?_
  · refine ⟨_, _, _, _, [], rfl, ?_, BltN.nil, ⟨Nat.le_refl _, fun _ _ => rfl⟩, ?_, ?_, ?_, ?_, ?_⟩ <;> first | exact Z2 | simp [fwdS, go_sem, *, Nat.reduceLT, Int.reduceEq, Int.reduceBEq, Int.reduceLE, Int.reduceLT, Nat.reduceAdd, Nat.reduceBEq, Nat.reduceEqDiff, reduceIte, Nat.reduceLeDiff, Nat.reduceMul, Nat.reduceSub, reduceCtorEq]
  rintro k F ⟨e, lm, hp, u, out, rfl, hf, hB, hX, hl1, h1, h3, h10, hk⟩
  have hol := fwdS_len ax k out hf
  have hbo := hB.blt.out
  by_cases hlt : k < 13
  · have hd : decide ((k : Int) < 13) = true := by simp; omega
    have HF := Lib.hid hf
    have HOL := Lib.hid hol
    clear hf
    have hst : ∃ s0 : Sp, startS ax out k = s0 ∧ (k = 0 ∧ s0 = ax.chuck ∨ k ≠ 0 ∧ ∃ pv, out[k - 1]? = some pv ∧ s0 = nxtS ax pv) := by
      by_cases hk0 : k = 0
      · exact ⟨_, rfl, .inl ⟨hk0, by simp [startS, hk0]⟩⟩
      · obtain ⟨pv, hpv⟩ := get_some (show k - 1 < out.length by omega)
        exact ⟨_, rfl, .inr ⟨hk0, pv, hpv, by simp [startS, hk0, List.getD, hpv]⟩⟩
    obtain ⟨s0, hs0, hcase⟩ := hst
    have HS := Lib.hid hs0
    clear hs0
    have hnx : fwdS ax (k + 1) = match limS k ax.limits s0 with | none => none | some s => some (out ++ [s]) := by
      simp only [fwdS, HF.out, HS.out]
    have HNX := Lib.hid hnx
    have hbn : limS k ax.limits s0 = none → boundsS ax = none := fun e => bounds_none ax hlt HF.out (by rw [HS.out]; exact e)
    have HBN := Lib.hid hbn
    have hll : (out.map spC.enc).length + 1 ≤ most := by simp only [List.length_map, hol]; unfold most; omega
    clear hnx hbn
    have hw := wrap_succ hlt (by unfold maxL; omega)
    have inner : ∀ (e' : Mp AV) (lm' : Mp (Nat × List AV)) (g : Nat) (Q : Out → Prop), lm'.get 1 = some (0, [.int .i64 ax.chuck.lo, .int .i64 ax.chuck.hi, .int .i64 ax.wear.lo, .int .i64 ax.wear.hi, v]) → lm'.get 5 = some (g, [.int .i64 s0.lo, .int .i64 s0.hi]) →
        e'.get 1 = some (.lptr 1 0 0) → e'.get 3 = some u → e'.get 4 = some (.int .i64 ↑k) → e'.get 5 = some (.lptr 5 g 0) → e'.get 10 = some (.int .i64 ↑k) → e'.get 39 = some v → e'.get 40 = some (.int .i64 ↑ax.limits.length) → e'.get 41 = some (.int .i64 0) → True := fun _ _ _ _ _ _ _ _ _ _ _ _ _ _ => trivial
    clear inner
    rcases hcase with ⟨hk0, hsc⟩ | ⟨hk0, pv, hpv, hsc⟩
    · have hgt : decide ((k : Int) > 0) = false := by simp; omega
      have HSC := Lib.hid hsc
      clear hol hk0 hsc
      repeat' (first | (apply W.drawQ (id := 7) (l1 := [0, 1, 2, 3, 4, 5, 6, 7, 8, 9, 10, 11, 12, 13, 14, 15, 16, 17, 18, 19, 20]) (l2 := [21]); kernel_rfl; kernel_rfl; kernel_rfl; exact Z4) | (apply W.drawQ (id := 20) (l1 := [0, 1, 2, 3, 4, 5, 6, 7, 8, 9, 10, 11, 12, 13, 14, 15, 16, 17, 18, 19, 20, 21, 22]) (l2 := [23]); kernel_rfl; kernel_rfl; kernel_rfl; exact Z4) | refine go1 ?_ | refine go2 (fun hh => ?_) (fun hh => ?_) | fail)
      all_goals (
        refine W.loopN ax.limits.length (fun j F => ∃ e lm g s, F = Fr.mk 157 false e lm hp [] none ∧ limS k (ax.limits.drop j) s = limS k ax.limits s0 ∧ lm.get 1 = some (0, [.int .i64 ax.chuck.lo, .int .i64 ax.chuck.hi, .int .i64 ax.wear.lo, .int .i64 ax.wear.hi, v]) ∧ lm.get 5 = some (g, [.int .i64 s.lo, .int .i64 s.hi]) ∧
          e.get 1 = some (.lptr 1 0 0) ∧ e.get 3 = some u ∧ e.get 4 = some (.int .i64 ↑k) ∧ e.get 5 = some (.lptr 5 g 0) ∧ e.get 10 = some (.int .i64 ↑k) ∧ e.get 39 = some v ∧ e.get 40 = some (.int .i64 ↑ax.limits.length) ∧ e.get 41 = some (.int .i64 ↑j) ∧ j ≤ ax.limits.length) ?_ ?_
        · refine ⟨_, _, nextGen lm 5, s0, rfl, ?_, ?_, ?_, ?_, ?_, ?_, ?_, ?_, ?_, ?_, ?_, ?_⟩ <;> first | exact Z2 | (have hsc := HSC.out; simp only [hsc, nxtS, w64, go_sem, *, Nat.reduceLT, Int.reduceEq, Int.reduceBEq, Int.reduceLE, Int.reduceLT, Nat.reduceAdd, Nat.reduceBEq, Nat.reduceEqDiff, reduceIte, Nat.reduceLeDiff, Nat.reduceMul, Nat.reduceSub, reduceCtorEq]; done) | simp
        rintro j F ⟨e, lm, g, s, rfl, hls, hl1, hl5, h1, h3, h4, h5, h10, h39, h40, h41, hj⟩
        have HLS := Lib.hid hls
        clear hls hgt
        by_cases hjt : j < ax.limits.length
        · obtain ⟨m, hm⟩ := get_some hjt
          have hdr : ax.limits.drop j = m :: ax.limits.drop (j + 1) := by
            rw [List.drop_eq_getElem_cons hjt]
            rw [List.getElem?_eq_getElem hjt] at hm
            rw [Option.some.inj hm]
          obtain ⟨ptr, hptr, hmem⟩ := HV.out.get j m hm hp hX.2
          have hdj : decide ((j : Int) < (ax.limits.length : Int)) = true := by simpa using hjt
          have hwj := wrap_succ hjt hmax
          have hlsm : (if m.b == ↑k then (if empS (interS s m.sp) then none else limS k (ax.limits.drop (j + 1)) (interS s m.sp)) else limS k (ax.limits.drop (j + 1)) s) = limS k ax.limits s0 := by
            have := HLS.out
            rw [hdr, limS_cons] at this
            exact this
          have HM := Lib.hid hlsm
          clear hm hdr hlsm hd
          by_cases hbl : (m.b == (k : Int)) = true
          · by_cases hem : empS (interS s m.sp) = true
            · have hcl : Cl (dX c) 191 [.int .i64 ↑k, .agg [.int .i64 s.lo, .int .i64 s.hi], .vslice [.agg [.int .i64 m.lo, .int .i64 m.hi]]] hp (.pan (.iface 223 (.agg [.int .i64 ↑k])) hp none) := by
                have q := C191 c hc2 ↑k s (.vslice [.agg [.int .i64 m.lo, .int .i64 m.hi]]) [m.sp] rfl hp
                rw [comR_pan hem] at q
                exact q
              have hbn := HBN.out (by rw [← HM.out, hbl, hem]; rfl)
              have HB2 := Lib.hid hbn
              clear hbn hem
              repeat' (first | (apply U6; exact Z1; exact Z1; (focus (exact hcl)); simp only [pM, pN, rR, rP]) | refine go1 ?_ | refine go2 (fun hh => ?_) (fun hh => ?_) | fail)
              exact isBnd_pan HB2.out hX
            · have hem : empS (interS s m.sp) = false := by simpa using hem
              have hcl : Cl (dX c) 191 [.int .i64 ↑k, .agg [.int .i64 s.lo, .int .i64 s.hi], .vslice [.agg [.int .i64 m.lo, .int .i64 m.hi]]] hp (.ret (.agg [.int .i64 (interS s m.sp).lo, .int .i64 (interS s m.sp).hi]) hp none) := by
                have q := C191 c hc2 ↑k s (.vslice [.agg [.int .i64 m.lo, .int .i64 m.hi]]) [m.sp] rfl hp
                rw [comR_ret hem] at q
                exact q
              have hnl : limS k (ax.limits.drop (j + 1)) (interS s m.sp) = limS k ax.limits s0 := by rw [← HM.out, hbl, hem]; rfl
              have HNL := Lib.hid hnl
              clear hnl hem
              repeat' (first | (apply U6; exact Z1; exact Z1; (focus (exact hcl)); simp only [pM, pN, rR, rP]) | refine go1 ?_ | refine go2 (fun hh => ?_) (fun hh => ?_) | fail)
              refine ⟨hjt, _, _, g, interS s m.sp, rfl, HNL.out, ?_, ?_, ?_, ?_, ?_, ?_, ?_, ?_, ?_, ?_, by omega⟩
              all_goals exact Z2
          · have hbl : (m.b == (k : Int)) = false := by simpa using hbl
            have hnl : limS k (ax.limits.drop (j + 1)) s = limS k ax.limits s0 := by rw [← HM.out, hbl]; rfl
            have HNL := Lib.hid hnl
            clear hnl
            repeat' (first | (apply U6; exact Z1; exact Z1; (focus (exact hcl)); simp only [pM, pN, rR, rP]) | refine go1 ?_ | refine go2 (fun hh => ?_) (fun hh => ?_) | fail)
            refine ⟨hjt, _, _, g, s, rfl, HNL.out, ?_, ?_, ?_, ?_, ?_, ?_, ?_, ?_, ?_, ?_, by omega⟩
            all_goals exact Z2
        · have hdj : decide ((j : Int) < (ax.limits.length : Int)) = false := by simpa using hjt
          have hjl : j = ax.limits.length := by omega
          have hfin : limS k ax.limits s0 = some s := by
            rw [← HLS.out, hjl, List.drop_length, limS_nil]
          have hf1 : fwdS ax (k + 1) = some (out ++ [s]) := by rw [HNX.out, hfin]
          have HF1 := Lib.hid hf1
          clear hf1 hfin hjl hd
          repeat' (first | (apply WO1.appendN (t := 146) (u := 146) (e := 48) (e' := 48) (sz := 2) (tl := []) (b := h.next) (h0 := h) (hb := hB) (hx := hX); exact Z1; exact rfl; (focus exact Z2); (focus exact Z2); (focus exact Z2); (focus (exact ty_row146)); exact Z1; (focus (intro v hv; simp at hv; rcases hv with rfl | rfl <;> rfl)); (focus (simp only [List.length_cons, List.length_nil]; exact hll)); (focus (simp)); (intro v' h' hB' ho' hX'; simp only [pM, pN])) | refine go1 ?_ | refine go2 (fun hh => ?_) (fun hh => ?_) | fail)
          refine ⟨hlt, _, _, _, v', out ++ [s], rfl, HF1.out, ?_, hX', ?_, ?_, ?_, ?_, by omega⟩
          · simpa [spC] using hB'
          all_goals exact Z2)
    · have hgt : decide ((k : Int) > 0) = true := by simp; omega
      have hne : out.map spC.enc ≠ [] := by
        intro e
        have : out = [] := by simpa using e
        rw [this] at hol
        simp at hol
        omega
      obtain ⟨id, hu, hgr, hbid, hidn⟩ := hB.row hne
      have hwm : IntKind.i64.wrap (↑k - 1) = ↑(k - 1) := by rw [wrap_small (by omega) (by omega)]; omega
      have hrow : (out.map spC.enc)[k - 1]? = some (.agg [.int .i64 pv.lo, .int .i64 pv.hi]) := by simp [hpv, spC]
      have hixr : indexAddrV Tryz.prog hp 146 u (.int .i64 ↑(k - 1)) = some (.eptr id 2 (k - 1) 0) := by
        have h1 : idxV (.int .i64 ↑(k - 1)) (out.map spC.enc).length = some (k - 1) := by
          simp only [idxV, List.length_map, hol]
          rw [if_pos (by omega)]
          simp
        rw [hu]
        simp only [indexAddrV, Tryz.underlying146, ty_lay48, h1, hgr, if_true, Nat.zero_add]
      have HU := Lib.hid hu
      have HPV := Lib.hid hpv
      have HSC := Lib.hid hsc
      clear hol hu hne hpv hk0 hsc
      repeat' (first | (apply W.drawQ (id := 7) (l1 := [0, 1, 2, 3, 4, 5, 6, 7, 8, 9, 10, 11, 12, 13, 14, 15, 16, 17, 18, 19, 20]) (l2 := [21]); kernel_rfl; kernel_rfl; kernel_rfl; exact Z4) | (apply W.drawQ (id := 20) (l1 := [0, 1, 2, 3, 4, 5, 6, 7, 8, 9, 10, 11, 12, 13, 14, 15, 16, 17, 18, 19, 20, 21, 22]) (l2 := [23]); kernel_rfl; kernel_rfl; kernel_rfl; exact Z4) | refine go1 ?_ | refine go2 (fun hh => ?_) (fun hh => ?_) | fail)
      all_goals (clear hgr hixr hrow hwm)
      all_goals (
        refine W.loopN ax.limits.length (fun j F => ∃ e lm g s, F = Fr.mk 157 false e lm hp [] none ∧ limS k (ax.limits.drop j) s = limS k ax.limits s0 ∧ lm.get 1 = some (0, [.int .i64 ax.chuck.lo, .int .i64 ax.chuck.hi, .int .i64 ax.wear.lo, .int .i64 ax.wear.hi, v]) ∧ lm.get 5 = some (g, [.int .i64 s.lo, .int .i64 s.hi]) ∧
          e.get 1 = some (.lptr 1 0 0) ∧ e.get 3 = some u ∧ e.get 4 = some (.int .i64 ↑k) ∧ e.get 5 = some (.lptr 5 g 0) ∧ e.get 10 = some (.int .i64 ↑k) ∧ e.get 39 = some v ∧ e.get 40 = some (.int .i64 ↑ax.limits.length) ∧ e.get 41 = some (.int .i64 ↑j) ∧ j ≤ ax.limits.length) ?_ ?_
        · refine ⟨_, _, nextGen lm 5, s0, rfl, ?_, ?_, ?_, ?_, ?_, ?_, ?_, ?_, ?_, ?_, ?_, ?_⟩ <;> first | exact Z2 | (have hsc := HSC.out; simp only [hsc, nxtS, w64, go_sem, *, Nat.reduceLT, Int.reduceEq, Int.reduceBEq, Int.reduceLE, Int.reduceLT, Nat.reduceAdd, Nat.reduceBEq, Nat.reduceEqDiff, reduceIte, Nat.reduceLeDiff, Nat.reduceMul, Nat.reduceSub, reduceCtorEq]; done) | simp
        rintro j F ⟨e, lm, g, s, rfl, hls, hl1, hl5, h1, h3, h4, h5, h10, h39, h40, h41, hj⟩
        have HLS := Lib.hid hls
        clear hls hgt
        by_cases hjt : j < ax.limits.length
        · obtain ⟨m, hm⟩ := get_some hjt
          have hdr : ax.limits.drop j = m :: ax.limits.drop (j + 1) := by
            rw [List.drop_eq_getElem_cons hjt]
            rw [List.getElem?_eq_getElem hjt] at hm
            rw [Option.some.inj hm]
          obtain ⟨ptr, hptr, hmem⟩ := HV.out.get j m hm hp hX.2
          have hdj : decide ((j : Int) < (ax.limits.length : Int)) = true := by simpa using hjt
          have hwj := wrap_succ hjt hmax
          have hlsm : (if m.b == ↑k then (if empS (interS s m.sp) then none else limS k (ax.limits.drop (j + 1)) (interS s m.sp)) else limS k (ax.limits.drop (j + 1)) s) = limS k ax.limits s0 := by
            have := HLS.out
            rw [hdr, limS_cons] at this
            exact this
          have HM := Lib.hid hlsm
          clear hm hdr hlsm hd
          by_cases hbl : (m.b == (k : Int)) = true
          · by_cases hem : empS (interS s m.sp) = true
            · have hcl : Cl (dX c) 191 [.int .i64 ↑k, .agg [.int .i64 s.lo, .int .i64 s.hi], .vslice [.agg [.int .i64 m.lo, .int .i64 m.hi]]] hp (.pan (.iface 223 (.agg [.int .i64 ↑k])) hp none) := by
                have q := C191 c hc2 ↑k s (.vslice [.agg [.int .i64 m.lo, .int .i64 m.hi]]) [m.sp] rfl hp
                rw [comR_pan hem] at q
                exact q
              have hbn := HBN.out (by rw [← HM.out, hbl, hem]; rfl)
              have HB2 := Lib.hid hbn
              clear hbn hem
              repeat' (first | (apply U6; exact Z1; exact Z1; (focus (exact hcl)); simp only [pM, pN, rR, rP]) | refine go1 ?_ | refine go2 (fun hh => ?_) (fun hh => ?_) | fail)
              exact isBnd_pan HB2.out hX
            · have hem : empS (interS s m.sp) = false := by simpa using hem
              have hcl : Cl (dX c) 191 [.int .i64 ↑k, .agg [.int .i64 s.lo, .int .i64 s.hi], .vslice [.agg [.int .i64 m.lo, .int .i64 m.hi]]] hp (.ret (.agg [.int .i64 (interS s m.sp).lo, .int .i64 (interS s m.sp).hi]) hp none) := by
                have q := C191 c hc2 ↑k s (.vslice [.agg [.int .i64 m.lo, .int .i64 m.hi]]) [m.sp] rfl hp
                rw [comR_ret hem] at q
                exact q
              have hnl : limS k (ax.limits.drop (j + 1)) (interS s m.sp) = limS k ax.limits s0 := by rw [← HM.out, hbl, hem]; rfl
              have HNL := Lib.hid hnl
              clear hnl hem
              repeat' (first | (apply U6; exact Z1; exact Z1; (focus (exact hcl)); simp only [pM, pN, rR, rP]) | refine go1 ?_ | refine go2 (fun hh => ?_) (fun hh => ?_) | fail)
              refine ⟨hjt, _, _, g, interS s m.sp, rfl, HNL.out, ?_, ?_, ?_, ?_, ?_, ?_, ?_, ?_, ?_, ?_, by omega⟩
              all_goals exact Z2
          · have hbl : (m.b == (k : Int)) = false := by simpa using hbl
            have hnl : limS k (ax.limits.drop (j + 1)) s = limS k ax.limits s0 := by rw [← HM.out, hbl]; rfl
            have HNL := Lib.hid hnl
            clear hnl
            repeat' (first | (apply U6; exact Z1; exact Z1; (focus (exact hcl)); simp only [pM, pN, rR, rP]) | refine go1 ?_ | refine go2 (fun hh => ?_) (fun hh => ?_) | fail)
            refine ⟨hjt, _, _, g, s, rfl, HNL.out, ?_, ?_, ?_, ?_, ?_, ?_, ?_, ?_, ?_, ?_, by omega⟩
            all_goals exact Z2
        · have hdj : decide ((j : Int) < (ax.limits.length : Int)) = false := by simpa using hjt
          have hjl : j = ax.limits.length := by omega
          have hfin : limS k ax.limits s0 = some s := by
            rw [← HLS.out, hjl, List.drop_length, limS_nil]
          have hf1 : fwdS ax (k + 1) = some (out ++ [s]) := by rw [HNX.out, hfin]
          have HF1 := Lib.hid hf1
          clear hf1 hfin hjl hd
          repeat' (first | (apply WO1.appendN (t := 146) (u := 146) (e := 48) (e' := 48) (sz := 2) (tl := []) (b := h.next) (h0 := h) (hb := hB) (hx := hX); exact Z1; exact rfl; (focus exact Z2); (focus exact Z2); (focus exact Z2); (focus (exact ty_row146)); exact Z1; (focus (intro v hv; simp at hv; rcases hv with rfl | rfl <;> rfl)); (focus (simp only [List.length_cons, List.length_nil]; exact hll)); (focus (simp)); (intro v' h' hB' ho' hX'; simp only [pM, pN])) | refine go1 ?_ | refine go2 (fun hh => ?_) (fun hh => ?_) | fail)
          refine ⟨hlt, _, _, _, v', out ++ [s], rfl, HF1.out, ?_, hX', ?_, ?_, ?_, ?_, by omega⟩
          · simpa [spC] using hB'
          all_goals exact Z2)
  · have hd : decide ((k : Int) < 13) = false := by simp; omega
    have hk13 : k = 13 := by omega
    have hne : out.map spC.enc ≠ [] := by
      intro e
      have : out = [] := by simpa using e
      rw [this] at hol
      simp at hol
      omega
    obtain ⟨id, hu, hgr, hbid, hidn⟩ := hB.row hne
    have hu13 : u = .row id 0 13 := by rw [hu, List.length_map, hol, hk13]
    have hol13 : out.length = 13 := by omega
    have hbd : boundsS ax = bwdS ax 12 out := by rw [hk13] at hf; simp only [boundsS_def, hf]
    subst hu13
    have HBD := Lib.hid hbd
    have HOL := Lib.hid hol13
    have HGR := Lib.hid hgr
    clear hbd hol13 hgr hf hol hk13 hu hne hB hk
    repeat' (first | (apply W.drawQ (id := 7) (l1 := [0, 1, 2, 3, 4, 5, 6, 7, 8, 9, 10, 11, 12, 13, 14, 15, 16, 17, 18, 19, 20]) (l2 := [21]); kernel_rfl; kernel_rfl; kernel_rfl; exact Z4) | (apply W.drawQ (id := 20) (l1 := [0, 1, 2, 3, 4, 5, 6, 7, 8, 9, 10, 11, 12, 13, 14, 15, 16, 17, 18, 19, 20, 21, 22]) (l2 := [23]); kernel_rfl; kernel_rfl; kernel_rfl; exact Z4) | refine go1 ?_ | refine go2 (fun hh => ?_) (fun hh => ?_) | fail)
    refine W.loopN 12 (fun j F => ∃ e lm hp cur, F = Fr.mk 157 false e lm hp [] none ∧ bwdS ax (12 - j) cur = bwdS ax 12 out ∧ cur.length = 13 ∧ hp.get id = some (.rw 2 (cur.map spC.enc)) ∧ (id < hp.next ∧ h.next ≤ hp.next ∧ ∀ id, id < h.next → hp.get id = h.get id) ∧
      lm.get 1 = some (0, [.int .i64 ax.chuck.lo, .int .i64 ax.chuck.hi, .int .i64 ax.wear.lo, .int .i64 ax.wear.hi, v]) ∧ e.get 1 = some (.lptr 1 0 0) ∧ e.get 3 = some (.row id 0 13) ∧ e.get 8 = some (.int .i64 (11 - ↑j)) ∧ j ≤ 12) ?_ ?_
    · refine ⟨_, _, _, out, rfl, rfl, HOL.out, HGR.out, ⟨hidn, hX⟩, ?_, ?_, ?_, ?_, ?_⟩ <;> first | exact Z2 | simp [go_sem, *]
    clear hd hbo h10
    rintro j F ⟨e, lm, hp, cur, rfl, hbw, hcl13, hgid, hX, hl1, h1, h3, h8, hj⟩
    have HBW := Lib.hid hbw
    have HC := Lib.hid hcl13
    clear hbw
    by_cases hjt : j < 12
    · have hdj : decide ((11 - (j : Int)) ≥ 0) = true := by simp; omega
      obtain ⟨pb, hpb⟩ := get_some (show 11 - j < cur.length by omega)
      obtain ⟨pn, hpn⟩ := get_some (show 12 - j < cur.length by omega)
      have hw1 : IntKind.i64.wrap (11 - ↑j + 1) = ↑(12 - j) := by rw [wrap_small (by omega) (by omega)]; omega
      have hw2 : IntKind.i64.wrap (11 - ↑j - 1) = 11 - ↑(j + 1) := by rw [wrap_small (by omega) (by omega)]; omega
      have hrb : (cur.map spC.enc)[11 - j]? = some (.agg [.int .i64 pb.lo, .int .i64 pb.hi]) := by simp [hpb, spC]
      have hrn : (cur.map spC.enc)[12 - j]? = some (.agg [.int .i64 pn.lo, .int .i64 pn.hi]) := by simp [hpn, spC]
      have hib : ∀ H : Heap, H.get id = some (.rw 2 (cur.map spC.enc)) → indexAddrV Tryz.prog H 146 (.row id 0 13) (.int .i64 (11 - ↑j)) = some (.eptr id 2 (11 - j) 0) := fun H hg => by
        have h1 : idxV (.int .i64 (11 - ↑j)) 13 = some (11 - j) := by
          simp only [idxV]
          rw [if_pos (by omega)]
          congr 1
          omega
        simp only [indexAddrV, Tryz.underlying146, ty_lay48, h1, hg, if_true, Nat.zero_add]
      have hin : ∀ H : Heap, H.get id = some (.rw 2 (cur.map spC.enc)) → indexAddrV Tryz.prog H 146 (.row id 0 13) (.int .i64 ↑(12 - j)) = some (.eptr id 2 (12 - j) 0) := fun H hg => by
        have h1 : idxV (.int .i64 ↑(12 - j)) 13 = some (12 - j) := by
          simp only [idxV]
          rw [if_pos (by omega)]
          simp
        simp only [indexAddrV, Tryz.underlying146, ty_lay48, h1, hg, if_true, Nat.zero_add]
      have hixb := hib hp hgid
      have hixn := hin hp hgid
      have hstep : bwdS ax (12 - j) cur = if empS (interS pb (prvS ax pn)) then none else bwdS ax (11 - j) (cur.set (11 - j) (interS pb (prvS ax pn))) := by
        rw [show 12 - j = (11 - j) + 1 from by omega, bwdS_succ]
        have e1 : cur.getD (11 - j) ⟨0, 0⟩ = pb := by simp [List.getD, hpb]
        have e2 : cur.getD (11 - j + 1) ⟨0, 0⟩ = pn := by rw [show 11 - j + 1 = 12 - j from by omega]; simp [List.getD, hpn]
        rw [e1, e2]
      have HST := Lib.hid hstep
      clear hib hin hpb hpn hstep hcl13
      by_cases hem : empS (interS pb (prvS ax pn)) = true
      · have hcl : Cl (dX c) 191 [.int .i64 (11 - ↑j), .agg [.int .i64 pb.lo, .int .i64 pb.hi], .vslice [.agg [.int .i64 (IntKind.i64.wrap (pn.lo - ax.wear.hi)), .int .i64 (IntKind.i64.wrap (pn.hi - ax.wear.lo))]]] hp (.pan (.iface 223 (.agg [.int .i64 (11 - ↑j)])) hp none) := by
          have q := C191 c hc2 (11 - ↑j) pb (.vslice [.agg [.int .i64 (prvS ax pn).lo, .int .i64 (prvS ax pn).hi]]) [prvS ax pn] rfl hp
          rw [comR_pan hem] at q
          exact q
        have hbn : boundsS ax = none := by rw [HBD.out, ← HBW.out, HST.out, hem]; rfl
        have HBN := Lib.hid hbn
        clear hbn hem
        repeat' (first | (apply W.drawP (id := 20) (i := 21) (l1 := [0, 1, 2, 3, 4, 5, 6, 7, 8, 9, 10, 11, 12, 13, 14, 15, 16, 17, 18, 19, 20]) (l2 := [22, 23]); kernel_rfl; kernel_rfl; kernel_rfl; exact rfl; exact rfl; exact Z4) | (apply U6; exact Z1; exact Z1; (focus (exact hcl)); simp only [pM, pN, rR, rP]) | (simp only [junkAll, pM, pN, tP, bP, eP, true_and]) | refine go1 ?_ | refine go2 (fun hh => ?_) (fun hh => ?_) | fail)
        exact isBnd_pan HBN.out hX.2
      · have hem : empS (interS pb (prvS ax pn)) = false := by simpa using hem
        have hcl : Cl (dX c) 191 [.int .i64 (11 - ↑j), .agg [.int .i64 pb.lo, .int .i64 pb.hi], .vslice [.agg [.int .i64 (IntKind.i64.wrap (pn.lo - ax.wear.hi)), .int .i64 (IntKind.i64.wrap (pn.hi - ax.wear.lo))]]] hp (.ret (.agg [.int .i64 (interS pb (prvS ax pn)).lo, .int .i64 (interS pb (prvS ax pn)).hi]) hp none) := by
          have q := C191 c hc2 (11 - ↑j) pb (.vslice [.agg [.int .i64 (prvS ax pn).lo, .int .i64 (prvS ax pn).hi]]) [prvS ax pn] rfl hp
          rw [comR_ret hem] at q
          exact q
        have hnb : bwdS ax (11 - j) (cur.set (11 - j) (interS pb (prvS ax pn))) = bwdS ax 12 out := by rw [← HBW.out, HST.out, hem]; rfl
        have HNB := Lib.hid hnb
        clear hnb hem
        repeat' (first | (apply W.drawQ (id := 7) (l1 := [0, 1, 2, 3, 4, 5, 6, 7, 8, 9, 10, 11, 12, 13, 14, 15, 16, 17, 18, 19, 20]) (l2 := [21]); kernel_rfl; kernel_rfl; kernel_rfl; exact Z4) | (apply W.drawQ (id := 20) (l1 := [0, 1, 2, 3, 4, 5, 6, 7, 8, 9, 10, 11, 12, 13, 14, 15, 16, 17, 18, 19, 20, 21, 22]) (l2 := [23]); kernel_rfl; kernel_rfl; kernel_rfl; exact Z4) | (apply U6; exact Z1; exact Z1; (focus (exact hcl)); simp only [pM, pN, rR, rP]) | refine go1 ?_ | refine go2 (fun hh => ?_) (fun hh => ?_) | fail)
        refine ⟨hjt, _, _, _, cur.set (11 - j) (interS pb (prvS ax pn)), rfl, ?_, ?_, ?_, ?_, ?_, ?_, ?_, ?_, by omega⟩
        · rw [show 12 - (j + 1) = 11 - j from by omega]; exact HNB.out
        · rw [List.length_set]; exact HC.out
        · simp [Heap.get, Heap.put, List.map_set, spC, asElem, isAggV]
        · refine ⟨hX.1, hX.2.1, fun i hi => ?_⟩
          have hne : id ≠ i := by omega
          rw [← hX.2.2 i hi]
          simp [Heap.get, Heap.put, hne]
        all_goals exact Z2
    · have hdj : decide ((11 - (j : Int)) ≥ 0) = false := by simp; omega
      have hj12 : j = 12 := by omega
      have hbc : boundsS ax = some cur := by rw [HBD.out, ← HBW.out, hj12]; rfl
      have HBC := Lib.hid hbc
      clear hbc hj12 hcl13
      have hne2 : cur.map spC.enc ≠ [] := by
        intro e
        have e2 : cur = [] := by simpa using e
        have e3 := HC.out
        rw [e2] at e3
        simp at e3
      have hsl : slN (cur.map spC.enc) = .vslice (cur.map spC.enc) := by
        cases hh : cur.map spC.enc with
        | nil => exact absurd hh hne2
        | cons x l => rfl
      have hz : freeze hp (.row id 0 13) = some (.vslice (cur.map spC.enc), hp.del id) := by
        show frz1 hp (.row id 0 13) = _
        simp only [frz1, hgid, List.length_map, HC.out, Nat.zero_add, Nat.le_refl, if_true, List.drop_zero]
        rw [List.take_of_length_le (by simp [HC.out])]
      have HSL := Lib.hid hsl
      clear hne2 hsl
      repeat' (first | (apply W.drawQ (id := 7) (l1 := [0, 1, 2, 3, 4, 5, 6, 7, 8, 9, 10, 11, 12, 13, 14, 15, 16, 17, 18, 19, 20]) (l2 := [21]); kernel_rfl; kernel_rfl; kernel_rfl; exact Z4) | (apply W.drawQ (id := 20) (l1 := [0, 1, 2, 3, 4, 5, 6, 7, 8, 9, 10, 11, 12, 13, 14, 15, 16, 17, 18, 19, 20, 21, 22]) (l2 := [23]); kernel_rfl; kernel_rfl; kernel_rfl; exact Z4) | refine go1 ?_ | refine go2 (fun hh => ?_) (fun hh => ?_) | fail)
      all_goals simp only [resV_def (X := dX c) Tryz.func157, Tryz.results157, resultsV, resultV, go_sem, *, Nat.reduceLT, Int.reduceEq, Int.reduceBEq, Int.reduceLE, Int.reduceLT, Nat.reduceAdd, Nat.reduceBEq, Nat.reduceEqDiff, reduceIte, Nat.reduceLeDiff, Nat.reduceMul, Nat.reduceSub, reduceCtorEq, frzRes, dFrz, frzCells, isRet_ret, tupleOf]
      refine isBnd_ret HBC.out HSL.out ⟨hX.2.1, fun i hi => ?_⟩
      have hne : id ≠ i := by omega
      rw [← hX.2.2 i hi]
      simp [Heap.get, Heap.del, hne]
end Go.AM
set_option linter.unusedSectionVars false
set_option linter.unusedVariables false
set_option linter.unusedSimpArgs false
set_option maxRecDepth 100000
namespace Go.AM
open Go Go.Proofs
variable [Keep]
attribute [local irreducible] W WO WO1 WD WQ WT thenQ blockQ endR isRet retK Cl ClR
structure Rdg where
  b : Int
  x : Int
  y : Int
  err : Int
def rdgC : Cd Rdg where
  enc p := .agg [.int .i64 p.b, .int .i64 p.x, .int .i64 p.y, .int .i64 p.err]
  dec a := match a with | .agg [.int .i64 b, .int .i64 x, .int .i64 y, .int .i64 z] => some ⟨b, x, y, z⟩ | _ => none
  de _ := rfl
  ed a x h := by split at h <;> cases h; rfl
  pur _ := rfl
theorem rdg_idx {a : AV} {l : List Rdg} (h : slV rdgC a = some l) {k : Nat} {p : Rdg} (hp : l[k]? = some p) (H : Heap) : indexAddrV Tryz.prog H 49 a (.int .i64 ↑k) = some (.vptr [.int .i64 p.b, .int .i64 p.x, .int .i64 p.y, .int .i64 p.err]) :=
  (slV_is h).1.idx (x := rdgC.enc p) Tryz.underlying49 ty_lay95 (by simp [hp]) rfl
def isAx (h : Heap) (cx wx : Sp) (l : List Lim) (r : COut) : Prop := ∃ h' u, r = .ret (.agg [.int .i64 cx.lo, .int .i64 cx.hi, .int .i64 wx.lo, .int .i64 wx.hi, u]) h' none ∧ BltN h.next h' u 3 (l.map limC.enc) ∧ HExt h h'
theorem isAx_fail {h : Heap} {cx wx : Sp} {l : List Lim} : ¬ isAx h cx wx l .fail := by rintro ⟨_, _, e, _⟩; cases e
theorem isAx_ret {h h' : Heap} {u : AV} {cx wx : Sp} {l : List Lim} (b : BltN h.next h' u 3 (l.map limC.enc)) (x : h.next ≤ h'.next ∧ ∀ id, id < h.next → h'.get id = h.get id) :
    isAx h cx wx l (.ret (.agg [.int .i64 cx.lo, .int .i64 cx.hi, .int .i64 wx.lo, .int .i64 wx.hi, u]) h' none) := ⟨h', u, rfl, b, x⟩
attribute [local irreducible] isAx
def lims155 (rs : List Rdg) : List Lim := rs.map fun r => ⟨r.b, w64 (r.x - r.err), w64 (r.x + r.err)⟩
set_option maxHeartbeats 800000 in
theorem C155 (c : FuncId → Option (List AV → Heap → Option (AV × Heap))) (hc : c 155 = none) (hc2 : c 190 = some (pureFn sp190)) (sa mv ra : AV) (cx cy wx wy : Sp) (rs : List Rdg) (h : Heap) (hr : slV rdgC ra = some rs) (hsa : sa.one = true) (hmv : mv.one = true) :
    ClR (dX c) 155 [.agg [sa, .int .i64 cx.lo, .int .i64 cx.hi, .int .i64 cy.lo, .int .i64 cy.hi, .int .i64 wx.lo, .int .i64 wx.hi, .int .i64 wy.lo, .int .i64 wy.hi, ra, mv]] h (isAx h cx wx (lims155 rs)) := by
  have hlen := sl_len hr
  have hout := sl_out hr
  have hmax := sl_max hr
  refine ClR.walk (c := _) hc Tryz.func155 rfl (by kernel_rfl) rfl isAx_fail ?_
  simp only [entryEnv, Nat.reduceAdd]
  repeat' (first | (apply W.drawQ (id := 5) (l1 := [0, 1, 2, 3, 4, 5, 6, 7, 8, 9, 10]) (l2 := [11, 12, 13]); kernel_rfl; kernel_rfl; kernel_rfl; exact Z4) | refine go1 ?_ | refine go2 (fun hh => ?_) (fun hh => ?_) | fail)
  refine W.loopN rs.length (fun k F => ∃ e lm hp u g, F = Fr.mk 155 false e lm hp [] none ∧ BltN h.next hp u 3 ((lims155 (rs.take k)).map limC.enc) ∧ (h.next ≤ hp.next ∧ ∀ id, id < h.next → hp.get id = h.get id) ∧
    lm.get 3 = some (g, [.int .i64 cx.lo, .int .i64 cx.hi, .int .i64 wx.lo, .int .i64 wx.hi, u]) ∧ lm.get 2 = some (0, [.int .i64 0, .int .i64 0, .int .i64 0, .int .i64 0, .nilslice]) ∧ e.get 2 = some (.lptr 2 0 0) ∧ e.get 3 = some (.lptr 3 g 0) ∧ e.get 15 = some ra ∧ e.get 16 = some (.int .i64 ↑rs.length) ∧ e.get 17 = some (.int .i64 ↑k) ∧ k ≤ rs.length) ?_ ?_
  · refine ⟨_, _, _, _, 0, rfl, BltN.nil, ⟨Nat.le_refl _, fun _ _ => rfl⟩, ?_, ?_, ?_, ?_, ?_, ?_, ?_, ?_⟩ <;> first | exact Z2 | simp [go_sem, *]
  rintro k F ⟨e, lm, hp, u, g, rfl, hB, hX, hl3, hl2, h2, h3, h15, h16, h17, hk⟩
  have hbo := hB.blt.out
  have hbc := hB.blt.cells
  have hbt := hB.blt.tup
  by_cases hlt : k < rs.length
  · obtain ⟨p, hp'⟩ := get_some hlt
    have hix := rdg_idx hr hp'
    have hd : decide ((k : Int) < (rs.length : Int)) = true := by simpa using hlt
    have hw := wrap_succ hlt hmax
    have hnx : lims155 (rs.take (k + 1)) = lims155 (rs.take k) ++ [⟨p.b, w64 (p.x - p.err), w64 (p.x + p.err)⟩] := by rw [take_next hp']; simp [lims155]
    have hll : ((lims155 (rs.take k)).map limC.enc).length + 1 ≤ most := by
      simp only [lims155, List.length_map, List.length_take]; unfold most; unfold maxL at hmax; omega
    clear hr hp'
    repeat' (first | (apply W.drawQ (id := 5) (l1 := [0, 1, 2, 3, 4, 5, 6, 7, 8, 9, 10]) (l2 := [11, 12, 13]); kernel_rfl; kernel_rfl; kernel_rfl; exact Z4) | (apply WO1.appendN (t := 226) (u := 226) (e := 230) (e' := 230) (sz := 3) (tl := []) (b := h.next) (h0 := h) (hb := hB) (hx := hX); exact Z1; exact rfl; (focus exact Z2); (focus exact Z2); (focus exact Z2); (focus (exact ty_row226)); exact Z1; (focus (intro v hv; simp at hv; rcases hv with rfl | rfl <;> rfl)); (focus (simp only [List.length_cons, List.length_nil]; exact hll)); (focus (simp)); (intro v' h' hB' ho' hX'; have hcc' := hB'.blt.cells; have htt' := hB'.blt.tup; simp only [AV.cells] at hcc'; simp only [isTuple] at htt'; simp only [pM, pN])) | refine go1 ?_ | (apply U6; exact Z1; exact Z1; (focus (simp only [List.nil_append, List.append_nil]; first | exact K190 hc2 _ _ _)); simp only [pM, pN, rR, rP]) | refine go2 (fun hh => ?_) (fun hh => ?_) | fail)
    refine ⟨hlt, _, _, _, v', g, rfl, ?_, hX', ?_, ?_, ?_, ?_, ?_, ?_, ?_, by omega⟩
    · rw [hnx]; simpa [limC] using hB'
    all_goals exact Z2
  · have hd : decide ((k : Int) < (rs.length : Int)) = false := by simpa using hlt
    have hkl : k = rs.length := by omega
    rw [hkl, List.take_length] at hB
    clear hkl hr
    repeat' (first | (apply W.drawQ (id := 5) (l1 := [0, 1, 2, 3, 4, 5, 6, 7, 8, 9, 10]) (l2 := [11, 12, 13]); kernel_rfl; kernel_rfl; kernel_rfl; exact Z4) | refine go1 ?_ | refine go2 (fun hh => ?_) (fun hh => ?_) | fail)
    all_goals simp only [resV_def (X := dX c) Tryz.func155, Tryz.results155, resultsV, resultV, go_sem, *, Nat.reduceLT, Int.reduceEq, Int.reduceBEq, Int.reduceLE, Int.reduceLT, Nat.reduceAdd, Nat.reduceBEq, Nat.reduceEqDiff, reduceIte, Nat.reduceLeDiff, Nat.reduceMul, Nat.reduceSub, reduceCtorEq, frzRes, dFrz, frzCells, isRet_ret, tupleOf]
    exact isAx_ret hB hX
def lims156 (rs : List Rdg) : List Lim := rs.map fun r => ⟨r.b, w64 (r.y - r.err), w64 (r.y + r.err)⟩
set_option maxHeartbeats 800000 in
theorem C156 (c : FuncId → Option (List AV → Heap → Option (AV × Heap))) (hc : c 156 = none) (hc2 : c 190 = some (pureFn sp190)) (sa mv ra : AV) (cx cy wx wy : Sp) (rs : List Rdg) (h : Heap) (hr : slV rdgC ra = some rs) (hsa : sa.one = true) (hmv : mv.one = true) :
    ClR (dX c) 156 [.agg [sa, .int .i64 cx.lo, .int .i64 cx.hi, .int .i64 cy.lo, .int .i64 cy.hi, .int .i64 wx.lo, .int .i64 wx.hi, .int .i64 wy.lo, .int .i64 wy.hi, ra, mv]] h (isAx h cy wy (lims156 rs)) := by
  have hlen := sl_len hr
  have hout := sl_out hr
  have hmax := sl_max hr
  refine ClR.walk (c := _) hc Tryz.func156 rfl (by kernel_rfl) rfl isAx_fail ?_
  simp only [entryEnv, Nat.reduceAdd]
  repeat' (first | (apply W.drawQ (id := 5) (l1 := [0, 1, 2, 3, 4, 5, 6, 7, 8, 9, 10]) (l2 := [11, 12, 13]); kernel_rfl; kernel_rfl; kernel_rfl; exact Z4) | refine go1 ?_ | refine go2 (fun hh => ?_) (fun hh => ?_) | fail)
  refine W.loopN rs.length (fun k F => ∃ e lm hp u g, F = Fr.mk 156 false e lm hp [] none ∧ BltN h.next hp u 3 ((lims156 (rs.take k)).map limC.enc) ∧ (h.next ≤ hp.next ∧ ∀ id, id < h.next → hp.get id = h.get id) ∧
    lm.get 3 = some (g, [.int .i64 cy.lo, .int .i64 cy.hi, .int .i64 wy.lo, .int .i64 wy.hi, u]) ∧ lm.get 2 = some (0, [.int .i64 0, .int .i64 0, .int .i64 0, .int .i64 0, .nilslice]) ∧ e.get 2 = some (.lptr 2 0 0) ∧ e.get 3 = some (.lptr 3 g 0) ∧ e.get 15 = some ra ∧ e.get 16 = some (.int .i64 ↑rs.length) ∧ e.get 17 = some (.int .i64 ↑k) ∧ k ≤ rs.length) ?_ ?_
  · refine ⟨_, _, _, _, 0, rfl, BltN.nil, ⟨Nat.le_refl _, fun _ _ => rfl⟩, ?_, ?_, ?_, ?_, ?_, ?_, ?_, ?_⟩ <;> first | exact Z2 | simp [go_sem, *]
  rintro k F ⟨e, lm, hp, u, g, rfl, hB, hX, hl3, hl2, h2, h3, h15, h16, h17, hk⟩
  have hbo := hB.blt.out
  have hbc := hB.blt.cells
  have hbt := hB.blt.tup
  by_cases hlt : k < rs.length
  · obtain ⟨p, hp'⟩ := get_some hlt
    have hix := rdg_idx hr hp'
    have hd : decide ((k : Int) < (rs.length : Int)) = true := by simpa using hlt
    have hw := wrap_succ hlt hmax
    have hnx : lims156 (rs.take (k + 1)) = lims156 (rs.take k) ++ [⟨p.b, w64 (p.y - p.err), w64 (p.y + p.err)⟩] := by rw [take_next hp']; simp [lims156]
    have hll : ((lims156 (rs.take k)).map limC.enc).length + 1 ≤ most := by
      simp only [lims156, List.length_map, List.length_take]; unfold most; unfold maxL at hmax; omega
    clear hr hp'
    repeat' (first | (apply W.drawQ (id := 5) (l1 := [0, 1, 2, 3, 4, 5, 6, 7, 8, 9, 10]) (l2 := [11, 12, 13]); kernel_rfl; kernel_rfl; kernel_rfl; exact Z4) | (apply WO1.appendN (t := 226) (u := 226) (e := 230) (e' := 230) (sz := 3) (tl := []) (b := h.next) (h0 := h) (hb := hB) (hx := hX); exact Z1; exact rfl; (focus exact Z2); (focus exact Z2); (focus exact Z2); (focus (exact ty_row226)); exact Z1; (focus (intro v hv; simp at hv; rcases hv with rfl | rfl <;> rfl)); (focus (simp only [List.length_cons, List.length_nil]; exact hll)); (focus (simp)); (intro v' h' hB' ho' hX'; have hcc' := hB'.blt.cells; have htt' := hB'.blt.tup; simp only [AV.cells] at hcc'; simp only [isTuple] at htt'; simp only [pM, pN])) | refine go1 ?_ | (apply U6; exact Z1; exact Z1; (focus (simp only [List.nil_append, List.append_nil]; first | exact K190 hc2 _ _ _)); simp only [pM, pN, rR, rP]) | refine go2 (fun hh => ?_) (fun hh => ?_) | fail)
    refine ⟨hlt, _, _, _, v', g, rfl, ?_, hX', ?_, ?_, ?_, ?_, ?_, ?_, ?_, by omega⟩
    · rw [hnx]; simpa [limC] using hB'
    all_goals exact Z2
  · have hd : decide ((k : Int) < (rs.length : Int)) = false := by simpa using hlt
    have hkl : k = rs.length := by omega
    rw [hkl, List.take_length] at hB
    clear hkl hr
    repeat' (first | (apply W.drawQ (id := 5) (l1 := [0, 1, 2, 3, 4, 5, 6, 7, 8, 9, 10]) (l2 := [11, 12, 13]); kernel_rfl; kernel_rfl; kernel_rfl; exact Z4) | refine go1 ?_ | refine go2 (fun hh => ?_) (fun hh => ?_) | fail)
    all_goals simp only [resV_def (X := dX c) Tryz.func156, Tryz.results156, resultsV, resultV, go_sem, *, Nat.reduceLT, Int.reduceEq, Int.reduceBEq, Int.reduceLE, Int.reduceLT, Nat.reduceAdd, Nat.reduceBEq, Nat.reduceEqDiff, reduceIte, Nat.reduceLeDiff, Nat.reduceMul, Nat.reduceSub, reduceCtorEq, frzRes, dFrz, frzCells, isRet_ret, tupleOf]
    exact isAx_ret hB hX
end Go.AM
set_option linter.unusedSectionVars false
set_option linter.unusedVariables false
set_option linter.unusedSimpArgs false
set_option maxRecDepth 100000
namespace Go.AM
open Go Go.Proofs
variable [Keep]
attribute [local irreducible] W WO WO1 WD WQ WT thenQ blockQ endR isRet retK Cl ClR
attribute [local irreducible] DefR
theorem eql_nn : binV Tryz.prog .eql 20 true .niliface .niliface = some (.bool true) := by kernel_rfl
theorem eql_in (t : TypeId) (v : AV) : binV Tryz.prog .eql 20 true (.iface t v) .niliface = some (.bool false) := by kernel_rfl
variable (c : FuncId → Option (List AV → Heap → Option (AV × Heap)))
theorem D154n (hn : Nat) (n : Nat) (m : Mp Blk) (Q : Heap → Option AV → Prop) (q : Q ⟨n, m⟩ none) : DefR (dX c) [(.func (.func 154) [] [.ptr hn 0, .ptr (hn + 1) 0], [])] ⟨n, m⟩ none Q := by
  have q := Lib.hid q
  have hq1 := eql_nn
  have hq2 := eql_in
  refine DefR.cons (g := 154) (X := dX c) Tryz.func154 (by kernel_rfl) rfl (by kernel_rfl) rfl ?_
  simp only [entryEnv, Nat.reduceAdd, List.nil_append, List.append_nil, Option.map_none]
  repeat' (first | (apply U5; exact rfl; (focus (intro cl rd; simp only [go_sem, *, Nat.reduceLT, Int.reduceEq, Int.reduceBEq, Int.reduceLE, Int.reduceLT, Nat.reduceAdd, Nat.reduceBEq, Nat.reduceEqDiff, reduceIte, Nat.reduceLeDiff, Nat.reduceMul, Nat.reduceSub, reduceCtorEq, efV, Fr.callOp, Fr.builtinE, Fr.recoverE, reduceIte, Bool.false_eq_true]; with_reducible rfl)); simp only [pM, pN]) | (simp only [endDef_norm]) | refine go1 ?_ | refine go2 (fun hh => ?_) (fun hh => ?_) | fail)
  refine DefR.nil ?_
  exact q.out
theorem D154p (hn : Nat) (n : Nat) (m : Mp Blk) (a b : AV) (x : Int) (Q : Heap → Option AV → Prop) (hg : m.get hn = some (.var [a, b])) (hg1 : m.get (hn + 1) = some (.var [.bool false])) (q : ∀ m', m'.get hn = some (.var [.nilslice, .nilslice]) → m'.get (hn + 1) = some (.var [.bool false]) → (∀ id, id < hn → m'.get id = m.get id) → Q ⟨n, m'⟩ none) :
    DefR (dX c) [(.func (.func 154) [] [.ptr hn 0, .ptr (hn + 1) 0], [])] ⟨n, m⟩ (some (.iface 223 (.agg [.int .i64 x]))) Q := by
  have q := Lib.hid q
  have hq1 := eql_nn
  have hq2 := eql_in
  have h1 : (hn == hn + 1) = false := by simp
  have h2 : (hn + 1 == hn) = false := by simp
  refine DefR.cons (g := 154) (X := dX c) Tryz.func154 (by kernel_rfl) rfl (by kernel_rfl) rfl ?_
  simp only [entryEnv, Nat.reduceAdd, List.nil_append, List.append_nil, Option.map_some]
  repeat' (first | (apply U5; exact rfl; (focus (intro cl rd; simp only [go_sem, *, Nat.reduceLT, Int.reduceEq, Int.reduceBEq, Int.reduceLE, Int.reduceLT, Nat.reduceAdd, Nat.reduceBEq, Nat.reduceEqDiff, reduceIte, Nat.reduceLeDiff, Nat.reduceMul, Nat.reduceSub, reduceCtorEq, efV, Fr.callOp, Fr.builtinE, Fr.recoverE, reduceIte, Bool.false_eq_true]; with_reducible rfl)); simp only [pM, pN]) | (simp only [endDef_norm]) | refine go1 ?_ | refine go2 (fun hh => ?_) (fun hh => ?_) | fail)
  refine DefR.nil ?_
  refine q.out _ ?_ ?_ ?_
  · simp only [go_sem, *, Nat.reduceLT, Int.reduceEq, Int.reduceBEq, Int.reduceLE, Int.reduceLT, Nat.reduceAdd, Nat.reduceBEq, Nat.reduceEqDiff, reduceIte, Nat.reduceLeDiff, Nat.reduceMul, Nat.reduceSub, reduceCtorEq]
  · simp only [go_sem, *, Nat.reduceLT, Int.reduceEq, Int.reduceBEq, Int.reduceLE, Int.reduceLT, Nat.reduceAdd, Nat.reduceBEq, Nat.reduceEqDiff, reduceIte, Nat.reduceLeDiff, Nat.reduceMul, Nat.reduceSub, reduceCtorEq]
  · intro id hid
    have e1 : (hn == id) = false := by simp; omega
    have e2 : (hn + 1 == id) = false := by simp; omega
    simp only [go_sem, *, Nat.reduceLT, Int.reduceEq, Int.reduceBEq, Int.reduceLE, Int.reduceLT, Nat.reduceAdd, Nat.reduceBEq, Nat.reduceEqDiff, reduceIte, Nat.reduceLeDiff, Nat.reduceMul, Nat.reduceSub, reduceCtorEq]
structure Held where
  b : Int
  x : Sp
  y : Sp
def heldC : Cd Held where
  enc p := .agg [.int .i64 p.b, .int .i64 p.x.lo, .int .i64 p.x.hi, .int .i64 p.y.lo, .int .i64 p.y.hi]
  dec a := match a with | .agg [.int .i64 b, .int .i64 x, .int .i64 y, .int .i64 z, .int .i64 w] => some ⟨b, ⟨x, y⟩, ⟨z, w⟩⟩ | _ => none
  de _ := rfl
  ed a x h := by split at h <;> cases h; rfl
  pur _ := rfl
theorem held_idx {a : AV} {l : List Held} (h : slV heldC a = some l) {k : Nat} {p : Held} (hp : l[k]? = some p) (H : Heap) : indexAddrV Tryz.prog H 173 a (.int .i64 ↑k) = some (.vptr [.int .i64 p.b, .int .i64 p.x.lo, .int .i64 p.x.hi, .int .i64 p.y.lo, .int .i64 p.y.hi]) :=
  (slV_is h).1.idx (x := heldC.enc p) Tryz.underlying173 ty_lay176 (by simp [hp]) rfl
theorem BltN.rdl {b : Nat} {h : Heap} {v : AV} {l : List Lim} (q : BltN b h v 3 (l.map limC.enc)) (hm : l.length ≤ maxL) : RdL h v l := by
  refine ⟨?_, q.blt.out, hm, q.blt.cells, q.blt.tup, ?_⟩
  · rcases q with ⟨rfl, e⟩ | ⟨id, rfl, h1, h2, h3, h4⟩
    · simp at e; subst e; rfl
    · simp [lenS]
  · intro k m hk hp hx
    have hkl : k < l.length := by
      rw [List.getElem?_eq_some_iff] at hk; exact hk.1
    rcases q with ⟨rfl, e⟩ | ⟨id, rfl, h1, h2, h3, h4⟩
    · simp at e; subst e; simp at hkl
    · refine ⟨.eptr id 3 k 0, ?_, fun f rnd e lm df up => ?_⟩
      · have hg := (hx id h3).trans h1
        have hi : idxV (.int .i64 ↑k) (l.map limC.enc).length = some k := by simp [idxV, hkl]
        simp only [indexAddrV, Tryz.underlying226, ty_lay230, hi, hg, if_true, Nat.zero_add]
      · have hg := (hx id h3).trans h1
        rw [mem_eptr]
        simp only [hg, List.getElem?_map, hk, Option.map_some, if_true, limC, AV.cells]
structure RdH (h : Heap) (v : AV) (l : List Held) : Prop where
  len : lenS v = some l.length
  out : outV (some v) = some v
  get : ∀ (k : Nat) (p : Held), l[k]? = some p → ∀ hp : Heap, (∀ id, id < h.next → hp.get id = h.get id) → ∃ ptr, indexAddrV Tryz.prog hp 173 v (.int .i64 ↑k) = some ptr ∧ ∀ f rnd e lm df up, (Fr.mk f rnd e lm hp df up).mem ptr = some ([.int .i64 p.b, .int .i64 p.x.lo, .int .i64 p.x.hi, .int .i64 p.y.lo, .int .i64 p.y.hi], 0)
theorem rdH_sl {h : Heap} {a : AV} {l : List Held} (q : slV heldC a = some l) : RdH h a l :=
  ⟨sl_len q, sl_out q, fun k p hp H _ => ⟨_, held_idx q hp H, fun f rnd e lm df up => mem_vptr ..⟩⟩
theorem rdH_row {h : Heap} {id off : Nat} {el : List AV} {l : List Held} (hg : h.get id = some (.rw 5 el)) (hid : id < h.next) (hl : (el.drop off).take l.length = l.map heldC.enc) (hle : off + l.length ≤ el.length) : RdH h (.row id off l.length) l := by
  refine ⟨by simp [lenS], rfl, fun k p hk hp hx => ?_⟩
  have hkl : k < l.length := (List.getElem?_eq_some_iff.1 hk).1
  have hg' := (hx id hid).trans hg
  have hi : idxV (.int .i64 ↑k) l.length = some k := by simp [idxV, hkl]
  refine ⟨.eptr id 5 (off + k) 0, ?_, fun f rnd e lm df up => ?_⟩
  · simp only [indexAddrV, Tryz.underlying173, ty_lay176, hi, hg', if_true]
  · have he : el[off + k]? = some (heldC.enc p) := by
      have : ((el.drop off).take l.length)[k]? = some (heldC.enc p) := by rw [hl]; simp [hk]
      rw [List.getElem?_take, if_pos hkl, List.getElem?_drop] at this
      exact this
    rw [mem_eptr]
    simp only [hg', he, if_true, heldC, AV.cells]
def ax0 (cx wx : Sp) (rs : List Rdg) (hs : List Held) : Ax := ⟨cx, wx, lims155 rs ++ hs.map fun p => (⟨p.b, p.x.lo, p.x.hi⟩ : Lim)⟩
def ax1 (cy wy : Sp) (rs : List Rdg) (hs : List Held) : Ax := ⟨cy, wy, lims156 rs ++ hs.map fun p => (⟨p.b, p.y.lo, p.y.hi⟩ : Lim)⟩
def knO : Option (List Sp) → Option (List Sp) → AV
  | some a, some b => .tuple [.agg [slN (a.map spC.enc), slN (b.map spC.enc)], .bool true]
  | _, _ => .tuple [.agg [.nilslice, .nilslice], .bool false]
theorem knO_no1 (x : Option (List Sp)) : knO none x = .tuple [.agg [.nilslice, .nilslice], .bool false] := by cases x <;> rfl
theorem knO_no2 (x : Option (List Sp)) : knO x none = .tuple [.agg [.nilslice, .nilslice], .bool false] := by cases x <;> rfl
def knV (A B : Ax) : AV := knO (boundsS A) (boundsS B)
theorem knV_def (A B : Ax) : knV A B = knO (boundsS A) (boundsS B) := rfl
def isKn (A B : Ax) (h : Heap) (r : COut) : Prop := ∃ h', (h.next ≤ h'.next ∧ ∀ id, id < h.next → h'.get id = h.get id) ∧ r = .ret (knV A B) h' none
def bOk (A : Ax) (v : AV) : Prop := ∃ o, boundsS A = some o ∧ v = slN (o.map spC.enc)
attribute [local irreducible] boundsS
theorem bOk.out {A : Ax} {v : AV} (h : bOk A v) : outV (some v) = some v ∧ (∀ H, frz1 H v = some (v, H)) ∧ v.cells = [v] ∧ isTuple v = false := by
  obtain ⟨o, _, rfl⟩ := h
  cases o <;> exact ⟨rfl, fun _ => rfl, rfl, rfl⟩
theorem knV_ok {A B : Ax} {a b : AV} (h : bOk A a) (k : bOk B b) : knV A B = .tuple [.agg [a, b], .bool true] := by
  obtain ⟨o, e, rfl⟩ := h
  obtain ⟨p, f, rfl⟩ := k
  rw [knV_def, e, f]; rfl
theorem knV_no1 {A B : Ax} (h : boundsS A = none) : knV A B = .tuple [.agg [.nilslice, .nilslice], .bool false] := by
  rw [knV_def, h, knO_no1]
theorem knV_no2 {A B : Ax} (h : boundsS B = none) : knV A B = .tuple [.agg [.nilslice, .nilslice], .bool false] := by
  rw [knV_def, h, knO_no2]
theorem ia169_0 (H : Heap) (s : Tmp) (g off : Nat) : indexAddrV Tryz.prog H 169 (.lptr s g off) (.int .i64 0) = some (.lptr s g off) := by
  simp only [indexAddrV, Tryz.underlying169, ty_lay48]; rfl
theorem ia169_1 (H : Heap) (s : Tmp) (g off : Nat) : indexAddrV Tryz.prog H 169 (.lptr s g off) (.int .i64 1) = some (.lptr s g (off + 2)) := by
  simp only [indexAddrV, Tryz.underlying169, ty_lay48]; rfl
theorem ia147_0 (H : Heap) (id off : Nat) : indexAddrV Tryz.prog H 147 (.ptr id off) (.int .i64 0) = some (.ptr id off) := by
  simp only [indexAddrV, Tryz.underlying147, ty_lay146]; rfl
theorem ia147_1 (H : Heap) (id off : Nat) : indexAddrV Tryz.prog H 147 (.ptr id off) (.int .i64 1) = some (.ptr id (off + 1)) := by
  simp only [indexAddrV, Tryz.underlying147, ty_lay146]; rfl
def stg (A B : Ax) (k : Nat) (a b : AV) : Prop := (if 1 ≤ k then bOk A a else a = .nilslice) ∧ (if 2 ≤ k then bOk B b else b = .nilslice)
set_option maxHeartbeats 1600000 in
theorem C103 (hc : c 103 = none) (hc5 : c 155 = none) (hc6 : c 156 = none) (hc7 : c 157 = none) (hc9 : c 191 = none) (hc2 : c 190 = some (pureFn sp190)) (sa mv ra ma : AV) (cx cy wx wy : Sp) (rs : List Rdg) (hs : List Held) (n : Nat) (m : Mp Blk) (hr : slV rdgC ra = some rs) (hm : RdH ⟨n, m⟩ ma hs) (hsum : rs.length + hs.length ≤ maxL) (hsa : sa.one = true) (hmv : mv.one = true) :
    ClR (dX c) 103 [.agg [sa, .int .i64 cx.lo, .int .i64 cx.hi, .int .i64 cy.lo, .int .i64 cy.hi, .int .i64 wx.lo, .int .i64 wx.hi, .int .i64 wy.lo, .int .i64 wy.hi, ra, mv], ma] ⟨n, m⟩ (isKn (ax0 cx wx rs hs) (ax1 cy wy rs hs) ⟨n, m⟩) := by
  have hlen := hm.len
  have hout := hm.out
  have hro := sl_out hr
  have HR := Lib.hid hr
  have HM := Lib.hid hm
  have hne1 : (n == n + 1) = false := by simp
  have hne2 : (n + 1 == n) = false := by simp
  clear hr hm
  refine ClR.walkD (c := _) hc Tryz.func103 rfl (by kernel_rfl) rfl ?_
  simp only [entryEnv, Nat.reduceAdd]
  repeat' (first | (apply U5; exact rfl; (focus (intro cl rd; simp only [go_sem, *, Nat.reduceLT, Int.reduceEq, Int.reduceBEq, Int.reduceLE, Int.reduceLT, Nat.reduceAdd, Nat.reduceBEq, Nat.reduceEqDiff, reduceIte, Nat.reduceLeDiff, Nat.reduceMul, Nat.reduceSub, reduceCtorEq, efV, Fr.deferE]; with_reducible rfl)); simp only [pM, pN]) | (apply W.drawQ (id := 9) (l1 := [0, 1, 2, 3, 4, 5, 6, 7, 8, 9]) (l2 := [10, 11, 12]); kernel_rfl; kernel_rfl; kernel_rfl; exact Z4) | refine go1 ?_ | refine go2 (fun hh => ?_) (fun hh => ?_) | fail)
  refine W.loopN 2 (fun k F => ∃ e lm pn pm a b, F = Fr.mk 103 false e lm ⟨pn, pm⟩ [(.func (.func 154) [] [.ptr n 0, .ptr (n + 1) 0], [])] none ∧ stg (ax0 cx wx rs hs) (ax1 cy wy rs hs) k a b ∧ pm.get n = some (.var [a, b]) ∧ pm.get (n + 1) = some (.var [.bool false]) ∧ (n + 2 ≤ pn ∧ ∀ id, id < n → pm.get id = m.get id) ∧
    e.get 1 = some ma ∧ e.get 4 = some (.ptr n 0) ∧ e.get 5 = some (.ptr (n + 1) 0) ∧ e.get 17 = some (.agg [.func (.func 155) [.agg [sa, .int .i64 cx.lo, .int .i64 cx.hi, .int .i64 cy.lo, .int .i64 cy.hi, .int .i64 wx.lo, .int .i64 wx.hi, .int .i64 wy.lo, .int .i64 wy.hi, ra, mv]] [], .func (.func 156) [.agg [sa, .int .i64 cx.lo, .int .i64 cx.hi, .int .i64 cy.lo, .int .i64 cy.hi, .int .i64 wx.lo, .int .i64 wx.hi, .int .i64 wy.lo, .int .i64 wy.hi, ra, mv]] []]) ∧ e.get 18 = some (.int .i64 ↑k) ∧ k ≤ 2) ?_ ?_
  · have hinit : ∀ id, id < n → ((m.set n (Blk.var [.nilslice, .nilslice])).set (n + 1) (.var [.bool false])).get id = m.get id := by
      intro id hid
      have e1 : (n == id) = false := by rw [beq_eq_false_iff_ne]; omega
      have e2 : (n + 1 == id) = false := by rw [beq_eq_false_iff_ne]; omega
      rw [get_set_lit _ _ _ _ e2, get_set_lit _ _ _ _ e1]
    refine ⟨_, _, _, _, .nilslice, .nilslice, rfl, by simp [stg], ?_, ?_, ⟨by omega, hinit⟩, ?_, ?_, ?_, ?_, ?_, ?_⟩
    clear hinit
    all_goals first | exact Z2 | (intro id hid; have e1 : (n == id) = false := by rw [beq_eq_false_iff_ne]; omega; have e2 : (n + 1 == id) = false := by rw [beq_eq_false_iff_ne]; omega; simp only [go_sem, *, Nat.reduceLT, Int.reduceEq, Int.reduceBEq, Int.reduceLE, Int.reduceLT, Nat.reduceAdd, Nat.reduceBEq, Nat.reduceEqDiff, reduceIte, Nat.reduceLeDiff, Nat.reduceMul, Nat.reduceSub, reduceCtorEq]; done) | simp [go_sem, *]
  rintro k F ⟨e, lm, pn, pm, a, b, rfl, hst, hg, hg1, hpx, h1, h4, h5, h17, h18, hk⟩
  have hk3 : k = 0 ∨ k = 1 ∨ k = 2 := by omega
  rcases hk3 with rfl | rfl | rfl
  · replace h18 : e.get 18 = some (.int .i64 0) := h18
    have hw0 : IntKind.i64.wrap (0 + 1) = 1 := by decide
    have hiv : idxV (.int .i64 0) 2 = some 0 := rfl
    have hia := ia169_0
    have hib := ia147_0
    have hw1 : IntKind.i64.wrap 1 = 1 := by decide
    have hc1 := C155 c hc5 hc2 sa mv ra cx cy wx wy rs ⟨pn, pm⟩ HR.out hsa hmv
    unfold ClR isAx at hc1
    obtain ⟨r, hcl, hq, u, rfl, hB, hX⟩ := hc1
    obtain ⟨rfl, rfl⟩ : a = .nilslice ∧ b = .nilslice := by simpa [stg] using hst
    have HA : RowKit.Hid True := Lib.hid trivial
    clear hst
    have HG := Lib.hid hg
    have HG1 := Lib.hid hg1
    clear hg hg1
    repeat' (first | (apply W.drawQ (id := 9) (l1 := [0, 1, 2, 3, 4, 5, 6, 7, 8, 9]) (l2 := [10, 11, 12]); kernel_rfl; kernel_rfl; kernel_rfl; exact Z4) | refine go1 ?_ | (apply U6; exact Z1; exact Z1; (focus (simp only [List.nil_append, List.append_nil]; first | exact hcl)); simp only [pM, pN, rR, rP]) | refine go2 (fun hh => ?_) (fun hh => ?_) | fail)
    refine W.loopN hs.length (fun j F => ∃ e lm hq u g, F = Fr.mk 103 false e lm hq [(.func (.func 154) [] [.ptr n 0, .ptr (n + 1) 0], [])] none ∧ BltN pn hq u 3 ((lims155 rs ++ (hs.take j).map fun p => (⟨p.b, p.x.lo, p.x.hi⟩ : Lim)).map limC.enc) ∧ (pn ≤ hq.next ∧ ∀ id, id < pn → hq.get id = (Heap.mk pn pm).get id) ∧
      lm.get 8 = some (g, [.int .i64 cx.lo, .int .i64 cx.hi, .int .i64 wx.lo, .int .i64 wx.hi, u]) ∧ e.get 8 = some (.lptr 8 g 0) ∧ e.get 1 = some ma ∧ e.get 4 = some (.ptr n 0) ∧ e.get 5 = some (.ptr (n + 1) 0) ∧ e.get 17 = some (.agg [.func (.func 155) [.agg [sa, .int .i64 cx.lo, .int .i64 cx.hi, .int .i64 cy.lo, .int .i64 cy.hi, .int .i64 wx.lo, .int .i64 wx.hi, .int .i64 wy.lo, .int .i64 wy.hi, ra, mv]] [], .func (.func 156) [.agg [sa, .int .i64 cx.lo, .int .i64 cx.hi, .int .i64 cy.lo, .int .i64 cy.hi, .int .i64 wx.lo, .int .i64 wx.hi, .int .i64 wy.lo, .int .i64 wy.hi, ra, mv]] []]) ∧
      e.get 6 = some (.int .i64 0) ∧ e.get 18 = some (.int .i64 0) ∧ e.get 24 = some ma ∧ e.get 25 = some (.int .i64 ↑hs.length) ∧ e.get 26 = some (.int .i64 ↑j) ∧ j ≤ hs.length) ?_ ?_
    · refine ⟨_, _, _, _, nextGen lm 8, rfl, by simpa using hB, hX, ?_, ?_, ?_, ?_, ?_, ?_, ?_, ?_, ?_, ?_, ?_, ?_⟩ <;> first | (simp only [nextGen, go_sem, *, Nat.reduceLT, Int.reduceEq, Int.reduceBEq, Int.reduceLE, Int.reduceLT, Nat.reduceAdd, Nat.reduceBEq, Nat.reduceEqDiff, reduceIte, Nat.reduceLeDiff, Nat.reduceMul, Nat.reduceSub, reduceCtorEq]; done) | simp [nextGen, go_sem, *, Nat.reduceLT, Int.reduceEq, Int.reduceBEq, Int.reduceLE, Int.reduceLT, Nat.reduceAdd, Nat.reduceBEq, Nat.reduceEqDiff, reduceIte, Nat.reduceLeDiff, Nat.reduceMul, Nat.reduceSub, reduceCtorEq]
    clear hcl hB hX h1 h4 h5 h17 h18
    rintro j F ⟨e, lm, hq, u, g, rfl, hB, hX, hl8, h8, h1, h4, h5, h17, h6, h18, h24, h25, h26, hj⟩
    have hbo := hB.blt.out
    have hbc := hB.blt.cells
    have hbt := hB.blt.tup
    by_cases hlt : j < hs.length
    · obtain ⟨p, hp'⟩ := get_some hlt
      obtain ⟨ptr, hptr, hmem⟩ := HM.out.get j p hp' hq (fun id hid => (hX.2 id (by have := hpx.1; simp only at hid; omega)).trans (hpx.2 id hid))
      have hd : decide ((j : Int) < (hs.length : Int)) = true := by simpa using hlt
      have hw := wrap_succ hlt (show hs.length ≤ maxL by omega)
      have hnx : (lims155 rs ++ (hs.take (j + 1)).map fun p => (⟨p.b, p.x.lo, p.x.hi⟩ : Lim)) = (lims155 rs ++ (hs.take j).map fun p => (⟨p.b, p.x.lo, p.x.hi⟩ : Lim)) ++ [(⟨p.b, p.x.lo, p.x.hi⟩ : Lim)] := by rw [take_next hp']; simp
      have hll : (((lims155 rs ++ (hs.take j).map fun p => (⟨p.b, p.x.lo, p.x.hi⟩ : Lim))).map limC.enc).length + 1 ≤ most := by
        simp only [lims155, List.length_map, List.length_append, List.length_take]; unfold most; unfold maxL at hsum; omega
      have HN := Lib.hid hnx
      clear hp' hnx
      repeat' (first | (apply W.drawQ (id := 9) (l1 := [0, 1, 2, 3, 4, 5, 6, 7, 8, 9]) (l2 := [10, 11, 12]); kernel_rfl; kernel_rfl; kernel_rfl; exact Z4) | (apply WO1.appendN (t := 226) (u := 226) (e := 230) (e' := 230) (sz := 3) (tl := []) (b := pn) (h0 := ⟨pn, pm⟩) (hb := hB) (hx := hX); exact Z1; exact rfl; (focus exact Z2); (focus exact Z2); (focus exact Z2); (focus (exact ty_row226)); exact Z1; (focus (intro v hv; simp at hv; rcases hv with rfl | rfl <;> rfl)); (focus (simp only [List.length_cons, List.length_nil]; exact hll)); (focus (simp)); (intro v' h' hB' ho' hX'; have hcc' := hB'.blt.cells; have htt' := hB'.blt.tup; simp only [AV.cells] at hcc'; simp only [isTuple] at htt'; simp only [pM, pN])) | refine go1 ?_ | refine go2 (fun hh => ?_) (fun hh => ?_) | fail)
      refine ⟨hlt, _, _, _, v', g, rfl, ?_, hX', ?_, ?_, ?_, ?_, ?_, ?_, ?_, ?_, ?_, ?_, ?_, by omega⟩
      · rw [HN.out]; simpa [limC] using hB'
      all_goals exact Z2
    · have hd : decide ((j : Int) < (hs.length : Int)) = false := by simpa using hlt
      have hjl : j = hs.length := by omega
      rw [hjl, List.take_length] at hB
      have hc1 := C157 c hc7 hc9 (ax0 cx wx rs hs) u hq (hB.rdl (by simp [lims155]; exact hsum))
      unfold ClR isBnd at hc1
      obtain ⟨r, hcl, hz, hzx, hzm⟩ := hc1
      have hcl : Cl (dX c) 157 [.agg [.int .i64 cx.lo, .int .i64 cx.hi, .int .i64 wx.lo, .int .i64 wx.hi, u]] hq r := hcl
      obtain ⟨zn, zm⟩ := hz
      have hzn : pn ≤ zn := Nat.le_trans hX.1 hzx.1
      have hzg : ∀ id, id < pn → zm.get id = pm.get id := fun id hid => (hzx.2 id (Nat.lt_of_lt_of_le hid hX.1)).trans (hX.2 id hid)
      have hg := (hzg n (by omega)).trans HG.out
      have hg1 := (hzg (n + 1) (by omega)).trans HG1.out
      have HZG := Lib.hid hzg
      clear hjl hX hzx hzg
      cases hbs : boundsS (ax0 cx wx rs hs) with
      | some o =>
        rw [hbs] at hzm
        have hva : bOk (ax0 cx wx rs hs) (slN (o.map spC.enc)) := ⟨o, hbs, rfl⟩
        simp only at hzm
        subst hzm
        generalize slN (o.map spC.enc) = va at hcl hva
        obtain ⟨hvo, hvf, hvc, hvt⟩ := hva.out
        simp only [AV.cells] at hvc
        simp only [isTuple] at hvt
        have hva := Lib.hid hva
        clear hbs
        repeat' (first | (apply W.drawQ (id := 9) (l1 := [0, 1, 2, 3, 4, 5, 6, 7, 8, 9]) (l2 := [10, 11, 12]); kernel_rfl; kernel_rfl; kernel_rfl; exact Z4) | refine go1 ?_ | (apply U6; exact Z1; exact Z1; (focus (simp only [List.nil_append, List.append_nil]; first | exact hcl)); simp only [pM, pN, rR, rP]) | refine go2 (fun hh => ?_) (fun hh => ?_) | fail)
        have hini : ∀ v id, id < n → (zm.set n v).get id = m.get id := by
          intro v id hid
          have e1 : (n == id) = false := by rw [beq_eq_false_iff_ne]; omega
          rw [get_set_lit _ _ _ _ e1, HZG.out id (by omega)]
          exact hpx.2 id hid
        refine ⟨by omega, _, _, _, _, va, .nilslice, rfl, by simp [stg]; exact hva.out, ?_, ?_, ⟨by omega, hini _⟩, ?_, ?_, ?_, ?_, ?_, by omega⟩
        all_goals (clear hini; first | exact Z2 | simp [go_sem, *])
      | none =>
        rw [hbs] at hzm
        obtain ⟨bb, hzm⟩ := hzm
        subst hzm
        have HBS := Lib.hid hbs
        clear hbs
        repeat' (first | (apply W.drawQ (id := 9) (l1 := [0, 1, 2, 3, 4, 5, 6, 7, 8, 9]) (l2 := [10, 11, 12]); kernel_rfl; kernel_rfl; kernel_rfl; exact Z4) | (simp only [endD_pan]) | refine go1 ?_ | (apply U6; exact Z1; exact Z1; (focus (simp only [List.nil_append, List.append_nil]; first | exact hcl)); simp only [pM, pN, rR, rP]) | refine go2 (fun hh => ?_) (fun hh => ?_) | fail)
        refine D154p c n zn zm .nilslice .nilslice bb _ hg hg1 fun m' q1 q2 q3 => afterD_none.2 ⟨⟨zn, m'⟩, ⟨by simp only; omega, fun id hid => (q3 id hid).trans ((HZG.out id (by simp only at hid; omega)).trans (hpx.2 id hid))⟩, ?_⟩
        rw [knV_no1 HBS.out]
        simp only [resV_def (X := dX c) Tryz.func103, Tryz.results103, resultsV, resultV, go_sem, *, Nat.reduceLT, Int.reduceEq, Int.reduceBEq, Int.reduceLE, Int.reduceLT, Nat.reduceAdd, Nat.reduceBEq, Nat.reduceEqDiff, reduceIte, Nat.reduceLeDiff, Nat.reduceMul, Nat.reduceSub, reduceCtorEq, frzRes, dFrz, frzCells, isRet_ret, tupleOf]
  · replace h18 : e.get 18 = some (.int .i64 1) := h18
    have hw0 : IntKind.i64.wrap (1 + 1) = 2 := by decide
    have hiv : idxV (.int .i64 1) 2 = some 1 := rfl
    have hia := ia169_1
    have hib := ia147_1
    have hw1 : IntKind.i64.wrap 2 = 2 := by decide
    have hc1 := C156 c hc6 hc2 sa mv ra cx cy wx wy rs ⟨pn, pm⟩ HR.out hsa hmv
    unfold ClR isAx at hc1
    obtain ⟨r, hcl, hq, u, rfl, hB, hX⟩ := hc1
    obtain ⟨hA, rfl⟩ : bOk (ax0 cx wx rs hs) a ∧ b = .nilslice := by simpa [stg] using hst
    obtain ⟨hao, hafz, hac, hat⟩ := hA.out
    simp only [AV.cells] at hac
    simp only [isTuple] at hat
    have HA := Lib.hid hA
    clear hA
    clear hst
    have HG := Lib.hid hg
    have HG1 := Lib.hid hg1
    clear hg hg1
    repeat' (first | (apply W.drawQ (id := 9) (l1 := [0, 1, 2, 3, 4, 5, 6, 7, 8, 9]) (l2 := [10, 11, 12]); kernel_rfl; kernel_rfl; kernel_rfl; exact Z4) | refine go1 ?_ | (apply U6; exact Z1; exact Z1; (focus (simp only [List.nil_append, List.append_nil]; first | exact hcl)); simp only [pM, pN, rR, rP]) | refine go2 (fun hh => ?_) (fun hh => ?_) | fail)
    refine W.loopN hs.length (fun j F => ∃ e lm hq u g, F = Fr.mk 103 false e lm hq [(.func (.func 154) [] [.ptr n 0, .ptr (n + 1) 0], [])] none ∧ BltN pn hq u 3 ((lims156 rs ++ (hs.take j).map fun p => (⟨p.b, p.y.lo, p.y.hi⟩ : Lim)).map limC.enc) ∧ (pn ≤ hq.next ∧ ∀ id, id < pn → hq.get id = (Heap.mk pn pm).get id) ∧
      lm.get 8 = some (g, [.int .i64 cy.lo, .int .i64 cy.hi, .int .i64 wy.lo, .int .i64 wy.hi, u]) ∧ e.get 8 = some (.lptr 8 g 0) ∧ e.get 1 = some ma ∧ e.get 4 = some (.ptr n 0) ∧ e.get 5 = some (.ptr (n + 1) 0) ∧ e.get 17 = some (.agg [.func (.func 155) [.agg [sa, .int .i64 cx.lo, .int .i64 cx.hi, .int .i64 cy.lo, .int .i64 cy.hi, .int .i64 wx.lo, .int .i64 wx.hi, .int .i64 wy.lo, .int .i64 wy.hi, ra, mv]] [], .func (.func 156) [.agg [sa, .int .i64 cx.lo, .int .i64 cx.hi, .int .i64 cy.lo, .int .i64 cy.hi, .int .i64 wx.lo, .int .i64 wx.hi, .int .i64 wy.lo, .int .i64 wy.hi, ra, mv]] []]) ∧
      e.get 6 = some (.int .i64 1) ∧ e.get 18 = some (.int .i64 1) ∧ e.get 24 = some ma ∧ e.get 25 = some (.int .i64 ↑hs.length) ∧ e.get 26 = some (.int .i64 ↑j) ∧ j ≤ hs.length) ?_ ?_
    · refine ⟨_, _, _, _, nextGen lm 8, rfl, by simpa using hB, hX, ?_, ?_, ?_, ?_, ?_, ?_, ?_, ?_, ?_, ?_, ?_, ?_⟩ <;> first | (simp only [nextGen, go_sem, *, Nat.reduceLT, Int.reduceEq, Int.reduceBEq, Int.reduceLE, Int.reduceLT, Nat.reduceAdd, Nat.reduceBEq, Nat.reduceEqDiff, reduceIte, Nat.reduceLeDiff, Nat.reduceMul, Nat.reduceSub, reduceCtorEq]; done) | simp [nextGen, go_sem, *, Nat.reduceLT, Int.reduceEq, Int.reduceBEq, Int.reduceLE, Int.reduceLT, Nat.reduceAdd, Nat.reduceBEq, Nat.reduceEqDiff, reduceIte, Nat.reduceLeDiff, Nat.reduceMul, Nat.reduceSub, reduceCtorEq]
    clear hcl hB hX h1 h4 h5 h17 h18
    rintro j F ⟨e, lm, hq, u, g, rfl, hB, hX, hl8, h8, h1, h4, h5, h17, h6, h18, h24, h25, h26, hj⟩
    have hbo := hB.blt.out
    have hbc := hB.blt.cells
    have hbt := hB.blt.tup
    by_cases hlt : j < hs.length
    · obtain ⟨p, hp'⟩ := get_some hlt
      obtain ⟨ptr, hptr, hmem⟩ := HM.out.get j p hp' hq (fun id hid => (hX.2 id (by have := hpx.1; simp only at hid; omega)).trans (hpx.2 id hid))
      have hd : decide ((j : Int) < (hs.length : Int)) = true := by simpa using hlt
      have hw := wrap_succ hlt (show hs.length ≤ maxL by omega)
      have hnx : (lims156 rs ++ (hs.take (j + 1)).map fun p => (⟨p.b, p.y.lo, p.y.hi⟩ : Lim)) = (lims156 rs ++ (hs.take j).map fun p => (⟨p.b, p.y.lo, p.y.hi⟩ : Lim)) ++ [(⟨p.b, p.y.lo, p.y.hi⟩ : Lim)] := by rw [take_next hp']; simp
      have hll : (((lims156 rs ++ (hs.take j).map fun p => (⟨p.b, p.y.lo, p.y.hi⟩ : Lim))).map limC.enc).length + 1 ≤ most := by
        simp only [lims156, List.length_map, List.length_append, List.length_take]; unfold most; unfold maxL at hsum; omega
      have HN := Lib.hid hnx
      clear hp' hnx
      repeat' (first | (apply W.drawQ (id := 9) (l1 := [0, 1, 2, 3, 4, 5, 6, 7, 8, 9]) (l2 := [10, 11, 12]); kernel_rfl; kernel_rfl; kernel_rfl; exact Z4) | (apply WO1.appendN (t := 226) (u := 226) (e := 230) (e' := 230) (sz := 3) (tl := []) (b := pn) (h0 := ⟨pn, pm⟩) (hb := hB) (hx := hX); exact Z1; exact rfl; (focus exact Z2); (focus exact Z2); (focus exact Z2); (focus (exact ty_row226)); exact Z1; (focus (intro v hv; simp at hv; rcases hv with rfl | rfl <;> rfl)); (focus (simp only [List.length_cons, List.length_nil]; exact hll)); (focus (simp)); (intro v' h' hB' ho' hX'; have hcc' := hB'.blt.cells; have htt' := hB'.blt.tup; simp only [AV.cells] at hcc'; simp only [isTuple] at htt'; simp only [pM, pN])) | refine go1 ?_ | refine go2 (fun hh => ?_) (fun hh => ?_) | fail)
      refine ⟨hlt, _, _, _, v', g, rfl, ?_, hX', ?_, ?_, ?_, ?_, ?_, ?_, ?_, ?_, ?_, ?_, ?_, by omega⟩
      · rw [HN.out]; simpa [limC] using hB'
      all_goals exact Z2
    · have hd : decide ((j : Int) < (hs.length : Int)) = false := by simpa using hlt
      have hjl : j = hs.length := by omega
      rw [hjl, List.take_length] at hB
      have hc1 := C157 c hc7 hc9 (ax1 cy wy rs hs) u hq (hB.rdl (by simp [lims156]; exact hsum))
      unfold ClR isBnd at hc1
      obtain ⟨r, hcl, hz, hzx, hzm⟩ := hc1
      have hcl : Cl (dX c) 157 [.agg [.int .i64 cy.lo, .int .i64 cy.hi, .int .i64 wy.lo, .int .i64 wy.hi, u]] hq r := hcl
      obtain ⟨zn, zm⟩ := hz
      have hzn : pn ≤ zn := Nat.le_trans hX.1 hzx.1
      have hzg : ∀ id, id < pn → zm.get id = pm.get id := fun id hid => (hzx.2 id (Nat.lt_of_lt_of_le hid hX.1)).trans (hX.2 id hid)
      have hg := (hzg n (by omega)).trans HG.out
      have hg1 := (hzg (n + 1) (by omega)).trans HG1.out
      have HZG := Lib.hid hzg
      clear hjl hX hzx hzg
      cases hbs : boundsS (ax1 cy wy rs hs) with
      | some o =>
        rw [hbs] at hzm
        have hva : bOk (ax1 cy wy rs hs) (slN (o.map spC.enc)) := ⟨o, hbs, rfl⟩
        simp only at hzm
        subst hzm
        generalize slN (o.map spC.enc) = va at hcl hva
        obtain ⟨hvo, hvf, hvc, hvt⟩ := hva.out
        simp only [AV.cells] at hvc
        simp only [isTuple] at hvt
        have hva := Lib.hid hva
        clear hbs
        repeat' (first | (apply W.drawQ (id := 9) (l1 := [0, 1, 2, 3, 4, 5, 6, 7, 8, 9]) (l2 := [10, 11, 12]); kernel_rfl; kernel_rfl; kernel_rfl; exact Z4) | refine go1 ?_ | (apply U6; exact Z1; exact Z1; (focus (simp only [List.nil_append, List.append_nil]; first | exact hcl)); simp only [pM, pN, rR, rP]) | refine go2 (fun hh => ?_) (fun hh => ?_) | fail)
        have hini : ∀ v id, id < n → (zm.set n v).get id = m.get id := by
          intro v id hid
          have e1 : (n == id) = false := by rw [beq_eq_false_iff_ne]; omega
          rw [get_set_lit _ _ _ _ e1, HZG.out id (by omega)]
          exact hpx.2 id hid
        refine ⟨by omega, _, _, _, _, a, va, rfl, by simp [stg]; exact ⟨HA.out, hva.out⟩, ?_, ?_, ⟨by omega, hini _⟩, ?_, ?_, ?_, ?_, ?_, by omega⟩
        all_goals (clear hini; first | exact Z2 | simp [go_sem, *])
      | none =>
        rw [hbs] at hzm
        obtain ⟨bb, hzm⟩ := hzm
        subst hzm
        have HBS := Lib.hid hbs
        clear hbs
        repeat' (first | (apply W.drawQ (id := 9) (l1 := [0, 1, 2, 3, 4, 5, 6, 7, 8, 9]) (l2 := [10, 11, 12]); kernel_rfl; kernel_rfl; kernel_rfl; exact Z4) | (simp only [endD_pan]) | refine go1 ?_ | (apply U6; exact Z1; exact Z1; (focus (simp only [List.nil_append, List.append_nil]; first | exact hcl)); simp only [pM, pN, rR, rP]) | refine go2 (fun hh => ?_) (fun hh => ?_) | fail)
        refine D154p c n zn zm a .nilslice bb _ hg hg1 fun m' q1 q2 q3 => afterD_none.2 ⟨⟨zn, m'⟩, ⟨by simp only; omega, fun id hid => (q3 id hid).trans ((HZG.out id (by simp only at hid; omega)).trans (hpx.2 id hid))⟩, ?_⟩
        rw [knV_no2 HBS.out]
        simp only [resV_def (X := dX c) Tryz.func103, Tryz.results103, resultsV, resultV, go_sem, *, Nat.reduceLT, Int.reduceEq, Int.reduceBEq, Int.reduceLE, Int.reduceLT, Nat.reduceAdd, Nat.reduceBEq, Nat.reduceEqDiff, reduceIte, Nat.reduceLeDiff, Nat.reduceMul, Nat.reduceSub, reduceCtorEq, frzRes, dFrz, frzCells, isRet_ret, tupleOf]
  · replace h18 : e.get 18 = some (.int .i64 2) := h18
    obtain ⟨hA, hB⟩ : bOk (ax0 cx wx rs hs) a ∧ bOk (ax1 cy wy rs hs) b := by simpa [stg] using hst
    obtain ⟨hao, hafz, hac, hat⟩ := hA.out
    obtain ⟨hbo, hbfz, hbc, hbt⟩ := hB.out
    have HA := Lib.hid hA
    have HB := Lib.hid hB
    have HPX := Lib.hid hpx
    clear hst hA hB hpx
    repeat' (first | (apply W.drawQ (id := 9) (l1 := [0, 1, 2, 3, 4, 5, 6, 7, 8, 9]) (l2 := [10, 11, 12]); kernel_rfl; kernel_rfl; kernel_rfl; exact Z4) | (refine Y7 ?_; simp only [endD_ret]) | refine go1 ?_ | refine go2 (fun hh => ?_) (fun hh => ?_) | fail)
    refine D154n c n _ _ _ ?_
    refine afterD_none.2 ⟨⟨pn, (pm.set n (.var [a, b])).set (n + 1) (.var [.bool true])⟩, ?_, ?_⟩
    rotate_left
    · rw [knV_ok HA.out HB.out]
      simp only [resV_def (X := dX c) Tryz.func103, Tryz.results103, resultsV, resultV, go_sem, *, Nat.reduceLT, Int.reduceEq, Int.reduceBEq, Int.reduceLE, Int.reduceLT, Nat.reduceAdd, Nat.reduceBEq, Nat.reduceEqDiff, reduceIte, Nat.reduceLeDiff, Nat.reduceMul, Nat.reduceSub, reduceCtorEq, frzRes, dFrz, frzCells, isRet_ret, tupleOf]
    · refine ⟨by simp only; have := HPX.out.1; omega, fun id hid => ?_⟩
      have hid : id < n := hid
      have e1 : (n == id) = false := by rw [beq_eq_false_iff_ne]; omega
      have e2 : (n + 1 == id) = false := by rw [beq_eq_false_iff_ne]; omega
      rw [hp_get, hp_get, get_set_lit _ _ _ _ e2, get_set_lit _ _ _ _ e1]
      exact HPX.out.2 id hid
end Go.AM
set_option linter.unusedSectionVars false
set_option linter.unusedVariables false
set_option linter.unusedSimpArgs false
set_option maxRecDepth 100000
namespace Go.AM
open Go Go.Proofs
variable [Keep]
attribute [local irreducible] W WO WO1 WD WQ WT thenQ blockQ endR isRet retK Cl ClR
def sp103 : List AV → Option AV
  | [.agg [sa, .int .i64 cxl, .int .i64 cxh, .int .i64 cyl, .int .i64 cyh, .int .i64 wxl, .int .i64 wxh, .int .i64 wyl, .int .i64 wyh, ra, mv], ma] =>
    match slV rdgC ra, slV heldC ma with
    | some rs, some hs => if (Nat.ble (rs.length + hs.length) maxL && sa.one && mv.one) = true then some (knV (ax0 ⟨cxl, cxh⟩ ⟨wxl, wxh⟩ rs hs) (ax1 ⟨cyl, cyh⟩ ⟨wyl, wyh⟩ rs hs)) else none
    | _, _ => none
  | _ => none
theorem slN_purL {l : List AV} (h : ∀ a ∈ l, a.pur = true) : (slN l).pur = true := by
  cases l with
  | nil => rfl
  | cons a l => exact purL_mem.2 h
theorem spL_pur (l : List Sp) : (slN (l.map spC.enc)).pur = true := slN_purL fun a ha => by
  obtain ⟨p, _, rfl⟩ := List.mem_map.1 ha
  rfl
theorem knV_pur (A B : Ax) : (knV A B).pur = true := by
  rw [knV_def]
  cases h1 : boundsS A <;> cases h2 : boundsS B <;> simp only [knO, AV.pur, AV.purL, spL_pur, Bool.and_self]
theorem p103 : ∀ args v, sp103 args = some v → v.pur = true := by
  intro args v h
  unfold sp103 at h
  split at h
  · split at h
    · split at h
      · cases h; exact knV_pur _ _
      · cases h
    · cases h
  · cases h
noncomputable def cN : FuncId → Option (List AV → Heap → Option (AV × Heap))
  | 190 => some (pureFn sp190)
  | _ => none
theorem cN_sound : Sound (dX cN) := dX_sound (fun f g h => by
  unfold cN at h
  split at h
  · cases h; exact F190
  · cases h)
end Go.AM
set_option linter.unusedSimpArgs false
set_option linter.unusedVariables false
set_option linter.unusedSectionVars false
namespace Go.AM
open Go Go.Proofs
variable [Keep]
end Go.AM
set_option linter.unusedSimpArgs false
set_option linter.unusedVariables false
set_option linter.unusedSectionVars false
namespace Go.AM
open Go Go.Proofs
variable [Keep]
def onHeap (spec : List AV → Heap → Option AV) : List AV → Heap → Option (AV × Heap) := fun args h => match spec args h with | some v => some (v, h) | none => none
def Part (m : Mp Blk) (h : Heap) : Prop := ∀ id b, m.get id = some b → h.get id = some b ∧ ∃ sz el, b = .rw sz el ∧ ∀ e ∈ el, e.pur = true
theorem BR.pur {C D : Cfg} {w : World} {L : Loc} {sz : Nat} {el : List AV} (k : BR C w L (.rw sz el)) (hs : ∀ x u, C.sig x = some u → D.sig x = some u) (hp : ∀ e ∈ el, e.pur = true) : BR D w L (.rw sz el) := by
  obtain ⟨c, h1, h2, h3, h4, h5⟩ := k
  refine ⟨c, h1, h2, h3, h4, fun i e hi => ?_⟩
  obtain ⟨g1, g2, g3⟩ := h5 i e hi
  refine ⟨g1, g2, fun j x hj => ?_⟩
  obtain ⟨v, k1, k2⟩ := g3 j x hj
  refine ⟨v, k1, k2.pur hs ?_⟩
  have hjl := (List.getElem?_eq_some_iff.1 hj).1
  have := pur_cells (hp e (List.mem_of_getElem? hi)) hjl
  simpa [List.getD, hj] using this
theorem WR.part {C : Cfg} {h : Heap} {w : World} (r : WR C h w) {m : Mp Blk} (hm : Part m h) : WR C ⟨h.next, m⟩ w :=
  ⟨r.sig, fun id blk e => r.blk id blk (hm id blk e).1, fun id id' blk blk' L L' e e' => r.inj id id' blk blk' L L' (hm _ _ e).1 (hm _ _ e').1, fun id blk L x v e => r.apart id blk L x v (hm _ _ e).1, r.fresh, r.base⟩
theorem Live.part {C : Cfg} {h : Heap} {m : Mp Blk} (hm : Part m h) {b : Nat} (l : Live C ⟨h.next, m⟩ b) : Live C h b := by
  obtain ⟨id, blk, L, e, q⟩ := l
  exact ⟨id, blk, L, (hm _ _ e).1, q⟩
theorem row_intr {X : Ctx} (s : Sound X) {f : FuncId} {spec : List AV → Heap → Option AV} (hp : ∀ args h v, spec args h = some v → v.pur = true)
    (hr : ∀ args h v, (∀ id b, h.get id = some b → id < h.next) → spec args h = some v → ∃ m, Part m h ∧ ∃ h' k, callF X (ev X k) f args ⟨h.next, m⟩ = .ret v h' none ∧ ∀ id b, m.get id = some b → h'.get id = some b) : IntrFn X.P f (onHeap spec) := by
  intro args h v h' hg C w vs r hv
  unfold onHeap at hg
  split at hg
  · rename_i u hsp
    cases hg
    have hfr : ∀ id b, h.get id = some b → id < h.next := fun id b e => by
      obtain ⟨L, k1, _⟩ := r.blk id b e
      exact r.fresh id L k1
    obtain ⟨m, hm, h1, n, hcall, hkeep⟩ := hr args h v hfr hsp
    have hok := s.call n f args ⟨h.next, m⟩ C w vs (r.part hm) hv (by rw [hcall]; intro e; cases e)
    refine ⟨hok.1, fun cs => ?_⟩
    have := hok.2 cs
    rw [hcall] at this
    obtain ⟨C', w', fr, u, q1, q2, q3, q4, q5, q6⟩ := this
    have hle : C.le ⟨C.mu, C'.sig⟩ := ⟨fun _ _ h => h, q6.le.sig⟩
    have hsame : ∀ β, β < w.heap.size → ¬ Live C ⟨h.next, m⟩ β → w'.heap[β]? = w.heap[β]? := fun β hb hl => q6.same β hb hl id
    refine ⟨⟨C.mu, C'.sig⟩, w', fr, u, q1, q2, q3, q4.pur (fun _ _ h => h) (hp _ _ _ hsp), ⟨q5.sig, fun id blk e => ?_, r.inj, fun id blk L x u e1 e2 e3 e4 => ?_, r.fresh, q5.base⟩, ?_⟩
    · obtain ⟨L, k1, k2⟩ := r.blk id blk e
      refine ⟨L, k1, ?_⟩
      by_cases hmi : m.get id = some blk
      · obtain ⟨_, sz, el, rfl, hpe⟩ := hm id blk hmi
        obtain ⟨L', g1, g2⟩ := q5.blk id _ (hkeep id _ hmi)
        rw [q6.le.mu _ _ k1] at g1
        cases g1
        exact g2.pur (fun _ _ h => h) hpe
      · refine k2.same hle (hsame _ k2.lt ?_)
        rintro ⟨id', blk', L', e', e2, e3⟩
        have he' := (hm id' blk' e').1
        have := r.inj id id' blk blk' L L' e he' k1 e2 e3.symm
        subst this
        rw [e] at he'
        cases he'
        exact hmi e'
    · obtain ⟨L', k1, k2⟩ := r.blk id blk e1
      rw [e2] at k1
      cases k1
      have hlt := k2.lt
      rcases q6.sig x u (by rw [e4]; exact hlt) e3 with g | g | g
      · exact r.apart id blk L x u e1 e2 g e4
      · obtain ⟨id', blk', L', g1, g2, g3⟩ := g
        exact q5.apart id' blk' L' x u (hkeep _ _ g1) (q6.le.mu _ _ g2) e3 g3.symm
      · exact g.elim
    · exact { le := hle, os := q6.os, tape := q6.tape, output := q6.output, size := q6.size, same := fun β hb hl _ => hsame β hb (fun l => hl (l.part hm)), live := fun β hb l => .inl (by
                obtain ⟨id, blk, L, e1, e2, e3⟩ := l
                exact ⟨id, blk, L, e1, e2, e3⟩)
              own := fun _ _ o => o.elim, sig := fun x u hb e => (by
                rcases q6.sig x u hb e with g | g | g
                · exact .inl g
                · exact .inr (.inl (g.part hm))
                · exact g.elim), next := Nat.le_refl _ }
  · cases hg
end Go.AM
set_option linter.unusedSimpArgs false
set_option linter.unusedVariables false
set_option linter.unusedSectionVars false
namespace Go.AM
open Go Go.Proofs
variable [Keep]
def h103 (args : List AV) (h : Heap) : Option AV :=
  match args with
  | [a, .row id off len] => (match h.get id with
    | some (.rw sz el) => if (Nat.beq sz 5 && Nat.ble (off + len) el.length && AV.purL el) = true then sp103 [a, .vslice ((el.drop off).take len)] else none
    | _ => none)
  | args => sp103 args
theorem hp103 : ∀ args h v, h103 args h = some v → v.pur = true := by
  intro args h v e
  unfold h103 at e
  split at e
  · split at e
    · split at e
      · exact p103 _ _ e
      · cases e
    · cases e
  · exact p103 _ _ e
theorem H103 : IntrFn Tryz.prog 103 (onHeap h103) := by
  refine row_intr (X := dX cN) cN_sound hp103 ?_
  intro args h v hfr e
  have run : ∀ (a ma ma' : AV) (m : Mp Blk), sp103 [a, ma] = some v → (∀ hs, slV heldC ma = some hs → RdH ⟨h.next, m⟩ ma' hs) → (∀ id b, m.get id = some b → id < h.next) →
      ∃ h' k, callF (dX cN) (ev (dX cN) k) 103 [a, ma'] ⟨h.next, m⟩ = .ret v h' none ∧ ∀ id b, m.get id = some b → h'.get id = some b := by
    intro a ma ma' m e hrd hlt
    unfold sp103 at e
    split at e
    · rename_i sa cxl cxh cyl cyh wxl wxh wyl wyh ra mv ma0 heq
      cases heq
      split at e
      · rename_i rs hs hr hm
        split at e
        · rename_i hc
          cases e
          simp only [Bool.and_eq_true, Nat.ble_eq] at hc
          have q := C103 cN rfl rfl rfl rfl rfl rfl sa mv ra ma' ⟨cxl, cxh⟩ ⟨cyl, cyh⟩ ⟨wxl, wxh⟩ ⟨wyl, wyh⟩ rs hs h.next m hr (hrd hs hm) hc.1.1 hc.1.2 hc.2
          unfold ClR at q
          obtain ⟨r, ⟨k, q1⟩, h', q2, rfl⟩ := q
          exact ⟨_, k, q1 k (Nat.le_refl _), fun id b e => (q2.2 id (hlt id b e)).trans e⟩
        · cases e
      · cases e
    · cases e
  unfold h103 at e
  split at e
  · rename_i a id off len
    split at e
    · rename_i sz el hg
      split at e
      · rename_i hc
        simp only [Bool.and_eq_true, Nat.ble_eq] at hc
        obtain ⟨⟨hz, hle⟩, hpu⟩ := hc
        have hz := Nat.eq_of_beq_eq_true hz
        subst hz
        have hid := hfr id _ hg
        have hget : ∀ id' b, ((Mp.nil : Mp Blk).set id (.rw 5 el)).get id' = some b → id' = id ∧ b = .rw 5 el := by
          intro id' b e
          by_cases hh : (id == id') = true
          · have := beq_iff_eq.1 hh
            subst this
            rw [get_set_same] at e
            exact ⟨rfl, (Option.some.inj e).symm⟩
          · rw [get_set_lit _ _ _ _ (by simpa using hh)] at e
            simp at e
        refine ⟨(Mp.nil : Mp Blk).set id (.rw 5 el), fun id' b e => ?_, ?_⟩
        · obtain ⟨rfl, rfl⟩ := hget id' b e
          exact ⟨hg, 5, el, rfl, purL_mem.1 hpu⟩
        · refine run a _ (.row id off len) _ e (fun hs hm => ?_) (fun id' b e => by obtain ⟨rfl, _⟩ := hget id' b e; exact hid)
          have hl : (el.drop off).take len = hs.map heldC.enc := by
            rcases (slV_is hm).1 with ⟨h1, _⟩ | h1
            · rcases h1 with h1 | h1 <;> cases h1
            · exact AV.vslice.inj h1
          have hlen : hs.length = len := by
            have := congrArg List.length hl
            simp at this
            omega
          subst hlen
          exact rdH_row (get_set_same _ _ _) hid hl hle
      · cases e
    · cases e
  · rename_i hne
    have h2 : ∃ a ma, args = [a, ma] := by
      unfold sp103 at e
      split at e
      · exact ⟨_, _, rfl⟩
      · cases e
    obtain ⟨a, ma, rfl⟩ := h2
    refine ⟨.nil, fun id b e => by simp at e, ?_⟩
    exact run a ma ma .nil e (fun hs hm => rdH_sl hm) (fun id b e => by simp at e)
end Go.AM
set_option linter.unusedSectionVars false
set_option linter.unusedVariables false
set_option linter.unusedSimpArgs false
set_option maxRecDepth 100000
namespace Go.AM
open Go Go.Proofs
variable [Keep]
attribute [local irreducible] W WO WO1 WD WQ WT thenQ blockQ endR isRet retK Cl ClR
theorem int_idx {a : AV} {l : List Int} (h : slV intC a = some l) {k : Nat} {p : Int} (hp : l[k]? = some p) (H : Heap) : indexAddrV Tryz.prog H 39 a (.int .i64 ↑k) = some (.vptr [.int .i64 p]) :=
  (slV_is h).1.idx (x := intC.enc p) Tryz.underlying39 ty_lay3 (by simp [hp]) rfl
def sp166 : List AV → Option AV
  | [a, .int .i64 v] => (slV intC a).map fun l => .int .i64 (idxOf (fun x => decide (v = x)) l)
  | _ => none
theorem p166 : ∀ args v, sp166 args = some v → v.flat = true := by
  intro args v h
  unfold sp166 at h
  split at h
  · simp only [Option.map_eq_some_iff] at h; obtain ⟨l, _, rfl⟩ := h; rfl
  · cases h
theorem C166 (c : FuncId → Option (List AV → Heap → Option (AV × Heap))) (hc : c 166 = none) (a : AV) (l : List Int) (ha : slV intC a = some l) (v : Int) (h : Heap) : ClR (dX c) 166 [a, .int .i64 v] h (isRet (.int .i64 (idxOf (fun x => decide (v = x)) l))) := by
  have hlen := sl_len ha
  have hout := sl_out ha
  have hmax := sl_max ha
  refine ClR.walk (c := _) hc Tryz.func166 rfl (by kernel_rfl) rfl isRet_fail ?_
  simp only [entryEnv, Nat.reduceAdd]
  repeat' (first | refine goS ?_ | refine go2 (fun hh => ?_) (fun hh => ?_) | fail)
  refine W.loopN l.length (fun k F => ∃ e, F = Fr.mk 166 false e .nil h [] none ∧ (l.take k).all (fun x => !decide (v = x)) = true ∧ e.get 0 = some a ∧ e.get 1 = some (.int .i64 v) ∧ e.get 7 = some (.int .i64 ↑l.length) ∧ e.get 8 = some (.int .i64 ↑k) ∧ k ≤ l.length) ?_ ?_
  · refine ⟨_, rfl, ?_, ?_, ?_, ?_, ?_, ?_⟩ <;> simp [go_sem, *]
  rintro k F ⟨e, rfl, hall, h0, h1, h7, h8, hk⟩
  have HA := Lib.hid hall
  clear hall
  by_cases hlt : k < l.length
  · obtain ⟨p, hp⟩ := get_some hlt
    have hix := int_idx ha hp
    have hd : decide ((k : Int) < (l.length : Int)) = true := by simpa using hlt
    have hw := wrap_succ hlt hmax
    have hnx := take_next hp
    by_cases hvp : v = p
    · have HI := Lib.hid (idxOf_at (pb := fun x => decide (v = x)) HA.out hp (by simpa using hvp))
      have hb : decide (v = p) = true := by simpa using hvp
      have hb2 : (v == p) = true := by simpa using hvp
      clear ha hp hnx hvp
      repeat' (first | refine goS ?_ | refine go2 (fun hh => ?_) (fun hh => ?_) | fail)
      all_goals simp only [resV_def (X := dX c) Tryz.func166, Tryz.results166, resultsV, resultV, go_sem, *, Nat.reduceLT, Int.reduceEq, Int.reduceBEq, Int.reduceLE, Int.reduceLT, Nat.reduceAdd, Nat.reduceBEq, Nat.reduceEqDiff, reduceIte, Nat.reduceLeDiff, Nat.reduceMul, Nat.reduceSub, reduceCtorEq, frzRes, dFrz, frzCells, isRet_ret, tupleOf]
      rw [HI.out]
    · have hb : decide (v = p) = false := by simpa using hvp
      have hb2 : (v == p) = false := by simpa using hvp
      have HN := Lib.hid hnx
      clear ha hp hnx hvp
      repeat' (first | refine goS ?_ | refine go2 (fun hh => ?_) (fun hh => ?_) | fail)
      refine ⟨hlt, _, rfl, ?_, ?_, ?_, ?_, ?_, by omega⟩
      · have := HA.out
        rw [HN.out]; simp_all
      all_goals exact Z2
  · have hd : decide ((k : Int) < (l.length : Int)) = false := by simpa using hlt
    have hkl : k = l.length := by omega
    have h2 := HA.out
    rw [hkl, List.take_length] at h2
    have HI := Lib.hid (idxOf_none h2)
    clear ha h2 hkl
    repeat' (first | refine goS ?_ | refine go2 (fun hh => ?_) (fun hh => ?_) | fail)
    all_goals simp only [resV_def (X := dX c) Tryz.func166, Tryz.results166, resultsV, resultV, go_sem, *, Nat.reduceLT, Int.reduceEq, Int.reduceBEq, Int.reduceLE, Int.reduceLT, Nat.reduceAdd, Nat.reduceBEq, Nat.reduceEqDiff, reduceIte, Nat.reduceLeDiff, Nat.reduceMul, Nat.reduceSub, reduceCtorEq, frzRes, dFrz, frzCells, isRet_ret, tupleOf]
    rw [HI.out]
noncomputable def cO : FuncId → Option (List AV → Heap → Option (AV × Heap)) := fun _ => none
theorem cO_sound : Sound (dX cO) := dX_sound (fun f g h => by cases h)
theorem F166 : IntrFn Tryz.prog 166 (flatFn sp166) := by
  refine flat_fn (X := dX cO) cO_sound p166 ?_
  intro args v h
  unfold sp166 at h
  split at h
  · simp only [Option.map_eq_some_iff] at h
    obtain ⟨l, hl, rfl⟩ := h
    exact C166 cO rfl _ l hl _ _
  · cases h
end Go.AM
set_option linter.unusedSimpArgs false
set_option linter.unusedVariables false
set_option linter.unusedSectionVars false
namespace Go.AM
open Go Go.Proofs Go.Shelf Go.Sort Go.RowKit
variable [Keep]
def strsOf : List AV → Option (List (List UInt8))
  | [] => some []
  | .str s :: r => match strsOf r with | some l => some (s :: l) | none => none
  | _ => none
theorem strsOf_eq : ∀ {l : List AV} {xs : List (List UInt8)}, strsOf l = some xs → l = xs.map AV.str := by
  intro l
  induction l with
  | nil => intro xs h; simp [strsOf] at h; subst h; rfl
  | cons a l ih =>
    intro xs h
    unfold strsOf at h
    split at h
    · rename_i e; cases e
    · rename_i s r e
      cases e
      split at h
      · rename_i l' h'
        cases h
        rw [ih h']; rfl
      · cases h
    · cases h
theorem WR.strs {C : Cfg} {h : Heap} {w : World} (r : WR C h w) {y : AV} {yv : Value} {xs : List (List UInt8)} (hv : VR C y yv) (he : h.elems y = some (xs.map AV.str)) :
    (xs = [] ∧ ∃ p c, yv = .slice p 0 c) ∨ ∃ B O c, yv = .slice (some ⟨B, O, none⟩) xs.length c ∧ xs.length ≤ c ∧ ∀ (i : Nat) (s : List UInt8), xs[i]? = some s → w.cell? ⟨B, O + i, none⟩ = some (.string ⟨⟨s⟩⟩) := by
  unfold Heap.elems at he
  split at he
  · cases hv
    have : xs = [] := by simpa using he.symm
    exact .inl ⟨this, _, _, rfl⟩
  · cases hv
    have : xs = [] := by simpa using he.symm
    exact .inl ⟨this, _, _, rfl⟩
  · have he := Option.some.inj he
    subst he
    generalize hl : xs.map AV.str = l at hv
    cases hv with
    | vslice0 a cap =>
      have : xs = [] := by simpa using hl
      exact .inl ⟨this, _, _, rfl⟩
    | vslice vs k1 k2 k3 k4 k5 =>
      rename_i sz b o cap
      subst hl
      refine .inr ⟨b, o, cap, by simp, by simpa using k1, fun i s hi => ?_⟩
      have hlt : i < xs.length := (List.getElem?_eq_some_iff.1 hi).1
      have hmem : AV.str s ∈ xs.map AV.str := List.mem_map.2 ⟨s, List.mem_of_getElem? hi, rfl⟩
      have hsz : sz = 1 := by have := k2 _ hmem; simpa [AV.cells] using this.symm
      subst hsz
      have hg : (xs.map AV.str).getD i .junk = .str s := by simp [List.getD, hi]
      have hs := r.sig _ _ (k3 i 0 (by simpa using hlt) (by omega))
      have hv := k4 i 0 (by simpa using hlt) (by omega)
      rw [hg] at hv
      simp only [AV.cells, List.getD, List.getElem?_cons_zero, Option.getD_some] at hv
      generalize vs i 0 = u at hs hv
      cases hv
      simpa using hs
  · rename_i id off len
    split at he
    · rename_i sz el hg
      split at he
      · rename_i hle
        have he := Option.some.inj he
        obtain ⟨L, e1, c, f1, f2, f3, f4, f5⟩ := r.blk id _ hg
        cases hv with
        | row A e2 k1 k2 k3 =>
          rw [e1] at e2
          cases e2
          rename_i cap
          have hlen : xs.length = len := by
            have := congrArg List.length he
            simp at this
            omega
          by_cases hx : xs = []
          · subst hx
            simp at hlen
            subst hlen
            exact .inl ⟨rfl, _, _, rfl⟩
          · have hpos : 0 < xs.length := List.length_pos_iff.2 hx
            rcases k2 with rfl | rfl
            · omega
            · refine .inr ⟨L.b, L.o + off * L.sz, cap, by rw [hlen], by omega, fun i s hi => ?_⟩
              have hlt : i < xs.length := (List.getElem?_eq_some_iff.1 hi).1
              have hei : el[off + i]? = some (.str s) := by
                have : ((el.drop off).take len)[i]? = some (.str s) := by rw [he]; simp [hi]
                rw [List.getElem?_take, List.getElem?_drop] at this
                split at this
                · exact this
                · cases this
              obtain ⟨g1, g2, g3⟩ := f5 _ _ hei
              have hsz : L.sz = 1 := by rw [f2]; simpa [AV.cells] using g1.symm
              obtain ⟨u, hu, hv⟩ := g3 0 (.str s) rfl
              cases hv
              have hcell := f1
              rw [hsz]
              have hu' : c[L.o + (off + i) * 1 + 0]? = some (Value.string ⟨⟨s⟩⟩) := by rw [← f2, hsz] at hu; exact hu
              have e3 : L.o + off * 1 + i = L.o + (off + i) * 1 + 0 := by omega
              rw [e3, hcell.cell]
              exact hu'
      · cases he
    · cases he
  · cases he
theorem VRs.two {C : Cfg} {a b : AV} {vs : Array Value} (h : VRs C [a, b] vs) : ∃ u v, vs = #[u, v] ∧ VR C a u ∧ VR C b v := by
  obtain ⟨hs, hi⟩ := h
  have hs' : vs.size = 2 := by simpa using hs
  refine ⟨vs.getD 0 undef, vs.getD 1 undef, ?_, hi 0 (by simp), hi 1 (by simp)⟩
  apply Array.ext (by simpa using hs')
  intro i h1 h2
  have : i = 0 ∨ i = 1 := by simp at h2; omega
  rcases this with rfl | rfl <;> simp [Array.getD, hs']
def spJoin : List AV → Heap → Option (AV × Heap)
  | [a, .str sep], h => match h.elems a with
    | some l => match strsOf l with
      | some xs => if Nat.ble xs.length maxL && Nat.ble (Lib.join xs sep).length maxL then some (.str (Lib.join xs sep), h) else none
      | none => none
    | none => none
  | _, _ => none
theorem join_intr {P : Program} {ρ : Ren} (L : Lays.n156 P ρ) (X : Builder.Extra P ρ) (hb : ∃ fn, P.funcs[ρ.f 156]? = some fn ∧ fn.body.isSome = true) : IntrFn P (ρ.f 156) spJoin := by
  intro args h v h' hg C w vs r hv
  refine ⟨hb, fun cs => ?_⟩
  unfold spJoin at hg
  split at hg
  · rename_i a sep
    split at hg
    · rename_i l hl
      split at hg
      · rename_i xs hxs
        split at hg
        · rename_i hc
          cases hg
          simp only [Bool.and_eq_true, Nat.ble_eq] at hc
          obtain ⟨u, t, rfl, ha, ht⟩ := hv.two
          cases ht
          rw [strsOf_eq hxs] at hl
          have hbelow : ∀ {w' : World}, Below w.heap.size w w' → w'.os = w.os ∧ w'.tape = w.tape ∧ w'.output = w.output ∧ w.heap.size ≤ w'.heap.size ∧ ∀ β, β < w.heap.size → w'.heap[β]? = w.heap[β]? := fun b => ⟨b.os, b.tape, b.output, b.size, b.block⟩
          rcases r.strs ha hl with ⟨rfl, p, c, rfl⟩ | ⟨B, O, c, rfl, h1, h2⟩
          · refine lib_left r ((Any.strings_Join_none L X p c ⟨⟨sep⟩⟩ w).mono fun e w' q => ?_) cs
            obtain ⟨rfl, rfl⟩ := q
            exact ⟨_, rfl, .str _, hbelow (Below.refl _ _)⟩
          · by_cases hx : xs = []
            · subst hx
              refine lib_left r ((Any.strings_Join_none L X _ c ⟨⟨sep⟩⟩ w).mono fun e w' q => ?_) cs
              obtain ⟨rfl, rfl⟩ := q
              exact ⟨_, rfl, .str _, hbelow (Below.refl _ _)⟩
            · have hpos : 0 < xs.length := List.length_pos_iff.2 hx
              have hB : B < w.heap.size := by
                have q := h2 0 xs[0] (by simp [hpos])
                rcases Nat.lt_or_ge B w.heap.size with h' | h'
                · exact h'
                · simp [World.cell?, Array.getElem?_eq_none h'] at q
              have hmap : (xs.map fun s => (⟨⟨s⟩⟩ : ByteArray)).map (·.data.toList) = xs := by simp [Function.comp_def]
              have hcall := Any.strings_Join L X B O c (xs.map fun s => ⟨⟨s⟩⟩) ⟨⟨sep⟩⟩ w (fun j x hj => by
                  rw [List.getElem?_map, Option.map_eq_some_iff] at hj
                  obtain ⟨s, hj, rfl⟩ := hj
                  exact h2 j s hj) hB (by simp only [List.length_map]; unfold maxL at hc; omega) (by simpa using h1) (by rw [hmap]; show (Lib.join xs sep).length ≤ _; unfold maxL at hc; have := hc.2; omega)
              rw [List.length_map] at hcall
              refine lib_left r (hcall.mono fun e w' q => ?_) cs
              obtain ⟨rfl, q⟩ := q
              refine ⟨_, rfl, ?_, hbelow q⟩
              rw [hmap]
              exact .str _
        · cases hg
      · cases hg
    · cases hg
  · cases hg
end Go.AM
set_option linter.unusedSectionVars false
namespace Go.Proofs
open Go.Shelf
def Tryz.lays156_ren : Go.Shelf.Ren := ⟨fun | 156 => 182 | 165 => 198 | 166 => 199 | 169 => 200 | 240 => 205 | 241 => 206 | 276 => 215 | 277 => 216 | n => n, fun | 31 => 208 | 9 => 9 | 3 => 3 | 4 => 4 | 0 => 0 | 20 => 20 | 72 => 266 | 76 => 270 | 70 => 264 | 37 => 131 | 75 => 269 | 127 => 276 | 164 => 286 | 5 => 5 | 80 => 272 | n => n, fun | n => n⟩
theorem Tryz.lays156 : Go.Proofs.Lays.n156 Tryz.prog Tryz.lays156_ren := {
  mixed := by kernel_rfl
  f156 := Tryz.func182.trans (congrArg some (by kernel_rfl))
  f165 := Tryz.func198.trans (congrArg some (by kernel_rfl))
  f166 := Tryz.func199.trans (congrArg some (by kernel_rfl))
  f169 := Tryz.func200.trans (congrArg some (by kernel_rfl))
  f240 := Tryz.func205.trans (congrArg some (by kernel_rfl))
  f241 := Tryz.func206.trans (congrArg some (by kernel_rfl))
  f276 := Tryz.func215.trans (congrArg some (by kernel_rfl))
  f277 := Tryz.func216.trans (congrArg some (by kernel_rfl))
  t0 := Tryz.underlying0
  a0 := Tryz.isAgg0
  z0 := Tryz.sizeOf0
  v0 := Tryz.zeroValue0
  t3 := Tryz.underlying3
  a3 := Tryz.isAgg3
  z3 := Tryz.sizeOf3
  v3 := Tryz.zeroValue3
  t4 := Tryz.underlying4
  a4 := Tryz.isAgg4
  z4 := Tryz.sizeOf4
  v4 := Tryz.zeroValue4
  t9 := Tryz.underlying9
  a9 := Tryz.isAgg9
  z9 := Tryz.sizeOf9
  v9 := Tryz.zeroValue9
  t20 := Tryz.underlying20
  a20 := Tryz.isAgg20
  z20 := Tryz.sizeOf20
  v20 := Tryz.zeroValue20
  t31 := Tryz.underlying208
  a31 := Tryz.isAgg208
  z31 := Tryz.sizeOf208
  v31 := Tryz.zeroValue208
  t37 := Tryz.underlying131
  a37 := Tryz.isAgg131
  z37 := Tryz.sizeOf131
  v37 := Tryz.zeroValue131
  t70 := Tryz.underlying264
  a70 := Tryz.isAgg264
  z70 := Tryz.sizeOf264
  v70 := Tryz.zeroValue264
  t72 := Tryz.underlying266
  a72 := Tryz.isAgg266
  z72 := Tryz.sizeOf266
  v72 := Tryz.zeroValue266
  t75 := Tryz.underlying269
  a75 := Tryz.isAgg269
  z75 := Tryz.sizeOf269
  v75 := Tryz.zeroValue269
  t76 := Tryz.underlying270
  a76 := Tryz.isAgg270
  z76 := Tryz.sizeOf270
  v76 := Tryz.zeroValue270
  t127 := Tryz.underlying276
  a127 := Tryz.isAgg276
  z127 := Tryz.sizeOf276
  v127 := Tryz.zeroValue276
  t164 := Tryz.underlying286
  a164 := Tryz.isAgg286
  z164 := Tryz.sizeOf286
  v164 := Tryz.zeroValue286 }
theorem Tryz.Builder_Extra_156 : Builder.Extra Tryz.prog Tryz.lays156_ren := {
  sizeBuilder := by kernel_rfl
  liesBuilder := by kernel_rfl
  t5 := Tryz.underlying5
  a5 := Tryz.isAgg5
  z5 := Tryz.sizeOf5
  v5 := Tryz.zeroValue5
  infoByte := by kernel_rfl
  cellsByte := by kernel_rfl
  sizeByte := by kernel_rfl
  neB5 := by decide }
def Tryz.laysM171_ren : Go.Shelf.Ren := ⟨fun | 171 => 181 | 243 => 197 | 246 => 204 | 283 => 211 | 284 => 212 | 285 => 213 | 286 => 214 | 129 => 223 | 317 => 222 | 318 => 224 | 319 => 225 | 320 => 226 | 337 => 233 | 338 => 234 | n => n, fun | 3 => 3 | 9 => 9 | 2 => 2 | 4 => 4 | 171 => 280 | 0 => 0 | 53 => 281 | 37 => 131 | 5 => 5 | 173 => 284 | 212 => 294 | 51 => 295 | 20 => 20 | 213 => 296 | 46 => 297 | 232 => 307 | 233 => 308 | n => n, fun | 17 => 0 | 18 => 4 | 19 => 5 | n => n⟩
theorem Tryz.laysM171 : Go.Proofs.LaysM.n171 Tryz.prog Tryz.laysM171_ren := {
  mixed := by kernel_rfl
  f129 := Tryz.func223.trans (congrArg some (by kernel_rfl))
  f171 := Tryz.func181.trans (congrArg some (by kernel_rfl))
  f243 := Tryz.func197.trans (congrArg some (by kernel_rfl))
  f246 := Tryz.func204.trans (congrArg some (by kernel_rfl))
  f283 := Tryz.func211.trans (congrArg some (by kernel_rfl))
  f284 := Tryz.func212.trans (congrArg some (by kernel_rfl))
  f285 := Tryz.func213.trans (congrArg some (by kernel_rfl))
  f286 := Tryz.func214.trans (congrArg some (by kernel_rfl))
  f317 := Tryz.func222.trans (congrArg some (by kernel_rfl))
  f318 := Tryz.func224.trans (congrArg some (by kernel_rfl))
  f319 := Tryz.func225.trans (congrArg some (by kernel_rfl))
  f320 := Tryz.func226.trans (congrArg some (by kernel_rfl))
  f337 := Tryz.func233.trans (congrArg some (by kernel_rfl))
  f338 := Tryz.func234.trans (congrArg some (by kernel_rfl))
  t0 := Tryz.underlying0
  a0 := Tryz.isAgg0
  z0 := Tryz.sizeOf0
  v0 := Tryz.zeroValue0
  t2 := Tryz.underlying2
  a2 := Tryz.isAgg2
  z2 := Tryz.sizeOf2
  v2 := Tryz.zeroValue2
  t3 := Tryz.underlying3
  a3 := Tryz.isAgg3
  z3 := Tryz.sizeOf3
  v3 := Tryz.zeroValue3
  t4 := Tryz.underlying4
  a4 := Tryz.isAgg4
  z4 := Tryz.sizeOf4
  v4 := Tryz.zeroValue4
  t5 := Tryz.underlying5
  a5 := Tryz.isAgg5
  z5 := Tryz.sizeOf5
  v5 := Tryz.zeroValue5
  t9 := Tryz.underlying9
  a9 := Tryz.isAgg9
  z9 := Tryz.sizeOf9
  v9 := Tryz.zeroValue9
  t20 := Tryz.underlying20
  a20 := Tryz.isAgg20
  z20 := Tryz.sizeOf20
  v20 := Tryz.zeroValue20
  t37 := Tryz.underlying131
  a37 := Tryz.isAgg131
  z37 := Tryz.sizeOf131
  v37 := Tryz.zeroValue131
  t46 := Tryz.underlying297
  a46 := Tryz.isAgg297
  z46 := Tryz.sizeOf297
  v46 := Tryz.zeroValue297
  t51 := Tryz.underlying295
  a51 := Tryz.isAgg295
  z51 := Tryz.sizeOf295
  v51 := Tryz.zeroValue295
  t53 := Tryz.underlying281
  a53 := Tryz.isAgg281
  z53 := Tryz.sizeOf281
  v53 := Tryz.zeroValue281
  t171 := Tryz.underlying280
  a171 := Tryz.isAgg280
  z171 := Tryz.sizeOf280
  v171 := Tryz.zeroValue280
  t173 := Tryz.underlying284
  a173 := Tryz.isAgg284
  z173 := Tryz.sizeOf284
  v173 := Tryz.zeroValue284
  t212 := Tryz.underlying294
  a212 := Tryz.isAgg294
  z212 := Tryz.sizeOf294
  v212 := Tryz.zeroValue294
  t213 := Tryz.underlying296
  a213 := Tryz.isAgg296
  z213 := Tryz.sizeOf296
  t232 := Tryz.underlying307
  a232 := Tryz.isAgg307
  z232 := Tryz.sizeOf307
  v232 := Tryz.zeroValue307
  t233 := Tryz.underlying308
  a233 := Tryz.isAgg308
  z233 := Tryz.sizeOf308
  v233 := Tryz.zeroValue308
  g17 := by kernel_rfl
  g18 := by kernel_rfl
  g19 := by kernel_rfl
  i0 := by kernel_rfl
  i2 := by kernel_rfl
  i3 := by kernel_rfl
  i4 := by kernel_rfl
  i5 := by kernel_rfl
  i9 := by kernel_rfl
  i20 := by kernel_rfl
  i37 := by kernel_rfl
  i46 := by kernel_rfl
  i51 := by kernel_rfl
  i53 := by kernel_rfl
  i171 := by kernel_rfl
  i173 := by kernel_rfl
  i212 := by kernel_rfl
  i232 := by kernel_rfl
  i233 := by kernel_rfl
  m17 := by kernel_rfl
  m18 := by kernel_rfl
  m19 := by kernel_rfl }
end Go.Proofs
namespace Go.AM
open Go Go.Proofs
variable [Keep]
theorem r181 : Tryz.laysM171_ren.f 171 = 181 := rfl
theorem r182 : Tryz.lays156_ren.f 156 = 182 := rfl
theorem b181 : ∃ fn, Tryz.prog.funcs[181]? = some fn ∧ fn.body.isSome = true := ⟨_, Tryz.func181, by kernel_rfl⟩
theorem b182 : ∃ fn, Tryz.prog.funcs[182]? = some fn ∧ fn.body.isSome = true := ⟨_, Tryz.func182, by kernel_rfl⟩
theorem F181 (hT : TabK Tryz.prog) : IntrFn Tryz.prog 181 (atOnce spItoa) := by
  have h := itoa_intr Tryz.laysM171 hT (by rw [r181]; exact b181)
  rw [r181] at h
  exact h
theorem F182 : IntrFn Tryz.prog 182 spJoin := by
  have h := join_intr Tryz.lays156 Tryz.Builder_Extra_156 (by rw [r182]; exact b182)
  rw [r182] at h
  exact h
end Go.AM
set_option linter.unusedVariables false
namespace Go.AM
open Go Go.Proofs
def cK : FuncId → Option (List AV → Heap → Option (AV × Heap))
  | 26 => some (pureFn sp26)
  | 27 => some (pureFn sp27)
  | 28 => some (flatFn sp28)
  | 29 => some (flatFn sp29)
  | 30 => some (pureFn sp30)
  | 53 => some (flatFn sp53)
  | 80 => some (pureFn sp80)
  | 81 => some (pureFn sp81)
  | 92 => some (pureFn sp92)
  | 93 => some (pureFn sp93)
  | 94 => some (flatFn sp94)
  | 95 => some (pureFn sp95)
  | 96 => some (pureFn sp96)
  | 97 => some (pureFn sp97)
  | 98 => some (pureFn sp98)
  | 103 => some (onHeap h103)
  | 135 => some (pureFn sp135)
  | 149 => some (pureFn sp149)
  | 151 => some (pureFn sp151)
  | 158 => some (pureFn sp158)
  | 174 => some (pureFn sp174)
  | 190 => some (pureFn sp190)
  | 252 => some (pureFn sp252)
  | 253 => some (pureFn sp253)
  | 166 => some (flatFn sp166)
  | 181 => some (atOnce spItoa)
  | 182 => some spJoin
  | _ => none
def isTrue : COut → Bool
  | .ret (.bool b) _ none => b
  | _ => false
section
variable [Keep]
theorem cK_sound (hT : TabK Tryz.prog) : Sound (dX cK) := dX_sound (fun f g h => by
  unfold cK at h
  split at h
  · cases h; exact F26
  · cases h; exact F27
  · cases h; exact F28
  · cases h; exact F29
  · cases h; exact F30
  · cases h; exact F53
  · cases h; exact F80
  · cases h; exact F81
  · cases h; exact F92
  · cases h; exact F93
  · cases h; exact F94
  · cases h; exact F95
  · cases h; exact F96
  · cases h; exact F97
  · cases h; exact F98
  · cases h; exact H103
  · cases h; exact F135
  · cases h; exact F149
  · cases h; exact F151
  · cases h; exact F158
  · cases h; exact F174
  · cases h; exact F190
  · cases h; exact F252
  · cases h; exact F253
  · cases h; exact F166
  · cases h; exact F181 hT
  · cases h; exact F182
  · cases h)
end
end Go.AM
set_option linter.unusedSimpArgs false
set_option linter.unusedVariables false
set_option linter.unusedSectionVars false
namespace Go.AM
open Go Go.Proofs
variable [Keep]
theorem pure_intr1 {X : Ctx} (s : Sound X) {f : FuncId} {spec : List AV → Option AV} (hp : ∀ args v, spec args = some v → v.pur = true) (hr : ∀ args v, spec args = some v → ∃ h' k, callF X (ev X k) f args emptyHp = .ret v h' none) : IntrFn X.P f (pureFn spec) := by
  intro args h v h' hg C w vs r hv
  unfold pureFn at hg
  split at hg
  · rename_i hpur
    split at hg
    · rename_i u hsp
      cases hg
      obtain ⟨h1, n, hcall⟩ := hr args v hsp
      have hok := s.call n f args emptyHp ⟨fun _ => none, C.sig⟩ w vs r.bare (hv.pur (fun _ _ h => h) (purL_mem.1 hpur)) (by rw [hcall]; intro e; cases e)
      refine ⟨hok.1, fun cs => ?_⟩
      have := hok.2 cs
      rw [hcall] at this
      obtain ⟨C', w', fr, u, q1, q2, q3, q4, q5, q6⟩ := this
      have hle : C.le ⟨C.mu, C'.sig⟩ := ⟨fun _ _ h => h, q6.le.sig⟩
      have hsame : ∀ β, β < w.heap.size → w'.heap[β]? = w.heap[β]? := fun β hb => q6.same β hb emptyHp_live id
      have hsig : ∀ x u, x.block < w.heap.size → C'.sig x = some u → C.sig x = some u := fun x u hb e => by
        rcases q6.sig x u hb e with h | h | h
        · exact h
        · exact (emptyHp_live h).elim
        · exact h.elim
      refine ⟨⟨C.mu, C'.sig⟩, w', fr, u, q1, q2, q3, q4.pur (fun _ _ h => h) (hp _ _ hsp), ⟨q5.sig, fun id blk e => ?_, r.inj, fun id blk L x u e1 e2 e3 e4 => ?_, r.fresh, q5.base⟩, ?_⟩
      · obtain ⟨L, k1, k2⟩ := r.blk id blk e
        exact ⟨L, k1, k2.same hle (hsame _ k2.lt)⟩
      · obtain ⟨L', k1, k2⟩ := r.blk id blk e1
        rw [e2] at k1
        cases k1
        have := k2.lt
        exact r.apart id blk L x u e1 e2 (hsig x u (by rw [e4]; exact this) e3) e4
      · exact { le := hle, os := q6.os, tape := q6.tape, output := q6.output, size := q6.size, same := fun β hb _ _ => hsame β hb, live := fun β hb l => .inl (by
                  obtain ⟨id, blk, L, e1, e2, e3⟩ := l
                  exact ⟨id, blk, L, e1, e2, e3⟩)
                own := fun _ _ o => o.elim, sig := fun x u hb e => .inl (hsig x u hb e), next := Nat.le_refl _ }
    · cases hg
  · cases hg
def sp25 : List AV → Option AV
  | [] => some (.bool true)
  | _ => none
theorem isTrue_ret {r : COut} (h : isTrue r = true) : ∃ h', r = .ret (.bool true) h' none := by
  unfold isTrue at h
  split at h
  · subst h; exact ⟨_, rfl⟩
  · cases h
end Go.AM
