/-
  DrillTrue: for every machine, every proposed truth and every blank the law returns true, and its arguments read behind the call as before. No condition but the row's own: the tables of Go's library that it lists hold what the program's text lays there.
-/
import Derived.Test.YtlhcjccaimmhgaaGreatDoorFnE
import Derived.Test.YtlhcjccaimmhgaaGreatDoorFnD
import Derived.Test.YtlhcjccaimmhgaaGreatDoorShared
import Derived.Test.YtlhcjccaimmhgaaGreatDoorHeadB
import Derived.Test.YtlhcjccaimmhgaaGreatDoorCards
set_option linter.unusedSimpArgs false
set_option linter.unusedVariables false
set_option linter.unusedSectionVars false
namespace Go.AM
open Go
variable [Keep]
def inS (n : Int) (s : Sp) : Prop := s.lo ≤ n ∧ n ≤ s.hi
theorem inS_inter {n : Int} {a b : Sp} (h1 : inS n a) (h2 : inS n b) : inS n (interS a b) := by
  unfold inS at *
  simp only [interS_lo, interS_hi]
  omega
theorem allS_in (n b : Int) : ∀ (L : List Lim) (s : Sp), (∀ m ∈ L, m.b = b → inS n m.sp) → inS n s → inS n (allS b L s) := by
  intro L
  induction L with
  | nil => intro s _ h; exact h
  | cons m r ih =>
    intro s hL h
    simp only [allS]
    split
    · rename_i hb
      exact ih _ (fun m' h' => hL m' (by simp [h'])) (inS_inter h (hL m (by simp) (by simpa using hb)))
    · exact ih _ (fun m' h' => hL m' (by simp [h'])) h
theorem lim_at {ax : Ax} {l : List Int} (hf : fitsA ax l = true) {k : Nat} : ∀ m ∈ ax.limits, m.b = (k : Int) → inS (l.getD k 0) m.sp := by
  intro m hm hb
  simp only [fitsA, Bool.and_eq_true] at hf
  have := List.all_eq_true.1 hf.2.2 m hm
  simp only [inL, inB, Bool.and_eq_true, decide_eq_true_eq, hb, Int.toNat_natCast] at this
  exact ⟨this.1, this.2⟩
theorem step_at {ax : Ax} {l : List Int} (hf : fitsA ax l = true) (hs : l.all okN = true) {k : Nat} (hk : k < 12) : ax.wear.lo ≤ l.getD (k + 1) 0 - l.getD k 0 ∧ l.getD (k + 1) 0 - l.getD k 0 ≤ ax.wear.hi := by
  simp only [fitsA, Bool.and_eq_true] at hf
  have := List.all_eq_true.1 hf.2.1 k (by simpa using hk)
  have a := num_small hs k
  have b := num_small hs (k + 1)
  have e : w64 (l.getD (k + 1) 0 - l.getD k 0) = l.getD (k + 1) 0 - l.getD k 0 := wrap_small (by omega) (by omega)
  simp only [stepB, inB, e, Bool.and_eq_true, decide_eq_true_eq] at this
  exact ⟨this.1, this.2⟩
theorem on_in {c w : Sp} {L : List Lim} (g : Good c w L) {l : List Int} (hf : fitsA ⟨c, w, L⟩ l = true) (hs : l.all okN = true) : ∀ k : Nat, k ≤ 12 → inS (l.getD k 0) (onS ⟨c, w, L⟩ k) := by
  intro k
  induction k with
  | zero =>
    intro _
    refine allS_in _ _ _ _ (lim_at hf (k := 0)) ?_
    have hf' := hf
    simp only [fitsA, inB, Bool.and_eq_true, decide_eq_true_eq] at hf'
    exact ⟨hf'.1.1, hf'.1.2⟩
  | succ k ih =>
    intro hk
    have h := ih (by omega)
    refine allS_in _ _ _ _ (lim_at hf (k := k + 1)) ?_
    obtain ⟨e1, e2⟩ := nxt_small g (by omega) (by omega) (on_bd g k (by omega))
    have hst := step_at hf hs (show k < 12 by omega)
    simp only [] at hst
    unfold inS at *
    rw [e1, e2]
    omega
def Amid (l : List Int) (out : List Sp) : Prop := out.length = 13 ∧ ∀ j : Nat, j ≤ 12 → inS (l.getD j 0) (out.getD j ⟨0, 0⟩) ∧ -1000 ≤ (out.getD j ⟨0, 0⟩).lo ∧ (out.getD j ⟨0, 0⟩).hi ≤ 1000
theorem back_in {c w : Sp} {L : List Lim} (g : Good c w L) {l : List Int} (hf : fitsA ⟨c, w, L⟩ l = true) (hs : l.all okN = true) : ∀ (n : Nat) (out : List Sp), n ≤ 12 → Amid l out → Amid l (backS ⟨c, w, L⟩ n out) := by
  intro n
  induction n with
  | zero => intro out _ h; exact h
  | succ n ih =>
    intro out hn h
    simp only [backS]
    refine ih _ (by omega) ⟨by simp [h.1], fun j hj => ?_⟩
    have w1 := g.w1
    have w2 := g.w2
    have w3 := g.w3
    have hm := h.2 (n + 1) (by omega)
    have hn1 := num_small hs (n + 1)
    have hst := step_at hf hs (show n < 12 by omega)
    simp only [] at hst
    by_cases hnj : n = j
    · subst hnj
      rw [getD_set_same (by rw [h.1]; omega)]
      have h0 := h.2 n (by omega)
      generalize out.getD (n + 1) ⟨0, 0⟩ = s at *
      generalize out.getD n ⟨0, 0⟩ = t at *
      have hm1 := hm.1
      have h01 := h0.1
      unfold inS at *
      have e1 : (prvS ⟨c, w, L⟩ s).lo = s.lo - w.hi := wrap_small (show -4611686018427387904 ≤ s.lo - w.hi by omega) (show s.lo - w.hi ≤ 4611686018427387904 by omega)
      have e2 : (prvS ⟨c, w, L⟩ s).hi = s.hi - w.lo := wrap_small (show -4611686018427387904 ≤ s.hi - w.lo by omega) (show s.hi - w.lo ≤ 4611686018427387904 by omega)
      simp only [interS_lo, interS_hi, e1, e2]
      omega
    · rw [getD_set_ne hnj]
      exact h.2 j hj
theorem on_list (ax : Ax) {k : Nat} (hk : k < 13) : ((List.range 13).map (onS ax)).getD k ⟨0, 0⟩ = onS ax k := by
  simp [List.getD, hk]
theorem bounds_good {c w : Sp} {L : List Lim} (g : Good c w L) : boundsS ⟨c, w, L⟩ = refS ⟨c, w, L⟩ := by
  have hc1 := g.c1
  have hc2 := g.c2
  have hc3 := g.c3
  have hw2 := g.w2
  have hw1 := g.w1
  have hw3 := g.w3
  refine bounds_ref ⟨c, w, L⟩ (by simp [empS]; omega) (fun k hk he => by
    obtain ⟨e1, e2⟩ := nxt_small g (by omega) (by omega) (on_bd g k (by omega))
    simp only [empS, decide_eq_false_iff_not] at *
    rw [e1, e2]
    omega)
theorem fits_within {c w : Sp} {L : List Lim} (g : Good c w L) {l : List Int} (hf : fitsA ⟨c, w, L⟩ l = true) (hs : l.all okN = true) : ∃ t, boundsS ⟨c, w, L⟩ = some t ∧ t.length = 13 ∧ ∀ j : Nat, j ≤ 12 → inS (l.getD j 0) (t.getD j ⟨0, 0⟩) := by
  have hM : Amid l (backS ⟨c, w, L⟩ 12 ((List.range 13).map (onS ⟨c, w, L⟩))) := by
    refine back_in g hf hs 12 _ (by omega) ⟨by simp, fun j hj => ?_⟩
    rw [on_list _ (by omega)]
    have := on_bd g j (by omega)
    exact ⟨on_in g hf hs j hj, by omega, by omega⟩
  rw [bounds_good g]
  unfold refS
  have hne : (backS ⟨c, w, L⟩ 12 ((List.range 13).map (onS ⟨c, w, L⟩))).any empS = false := by
    rw [List.any_eq_false]
    intro x hx
    obtain ⟨j, hj⟩ := List.mem_iff_getElem?.1 hx
    have hjl : j < 13 := by
      rcases Nat.lt_or_ge j 13 with h | h
      · exact h
      · rw [List.getElem?_eq_none (by rw [hM.1]; exact h)] at hj; cases hj
    have hg : (backS ⟨c, w, L⟩ 12 ((List.range 13).map (onS ⟨c, w, L⟩))).getD j ⟨0, 0⟩ = x := by simp [List.getD, hj]
    have := (hM.2 j (by omega)).1
    rw [hg] at this
    unfold inS at this
    simp only [empS, decide_eq_true_eq]
    omega
  rw [hne]
  exact ⟨_, rfl, hM.1, fun j hj => (hM.2 j hj).1⟩
theorem true_x {st : List Pt} {cx cy wx wy : Sp} {rs : List Rdg} {xs ys : List Int} (h : machB st cx cy wx wy rs = true) (ht : truthB xs ys = true) (hf : fitsM cx cy wx wy rs xs ys = true) : ∃ t, boundsS (ax0 cx wx rs []) = some t ∧ t.length = 13 ∧ ∀ j : Nat, j ≤ 12 → inS (xs.getD j 0) (t.getD j ⟨0, 0⟩) := by
  simp only [fitsM, Bool.and_eq_true] at hf
  have e : ax0 cx wx rs [] = ⟨cx, wx, lims155 rs⟩ := by simp [ax0]
  rw [e]
  exact fits_within (good_x h) hf.1 (truth_of ht).2.2.1
theorem true_y {st : List Pt} {cx cy wx wy : Sp} {rs : List Rdg} {xs ys : List Int} (h : machB st cx cy wx wy rs = true) (ht : truthB xs ys = true) (hf : fitsM cx cy wx wy rs xs ys = true) : ∃ t, boundsS (ax1 cy wy rs []) = some t ∧ t.length = 13 ∧ ∀ j : Nat, j ≤ 12 → inS (ys.getD j 0) (t.getD j ⟨0, 0⟩) := by
  simp only [fitsM, Bool.and_eq_true] at hf
  have e : ax1 cy wy rs [] = ⟨cy, wy, lims156 rs⟩ := by simp [ax1]
  rw [e]
  exact fits_within (good_y h) hf.2 (truth_of ht).2.2.2
end Go.AM
set_option maxRecDepth 100000
namespace Go.AM
open Go Go.Proofs
variable [Keep]
attribute [local irreducible] W WO WO1 WD WQ WT thenQ blockQ endR isRet retK Cl ClR
attribute [local irreducible] boundsS machB fitsM truthB
theorem eqg38 : Tryz.prog.eqGuardType Tryz.prog.depth 38 = false := by kernel_rfl
theorem eqh38 : Tryz.prog.stoodInHeld 38 = false := by kernel_rfl
theorem neq38 (a b c d : Int) : binV Tryz.prog .neq 38 false (.agg [.int .i64 a, .int .i64 b]) (.agg [.int .i64 c, .int .i64 d]) = some (.bool (!(a == c && b == d))) := by
  simp only [binV, eqOp, eqV, eqg38, Bool.false_eq_true, if_false, eqDepth, eqT, Tryz.underlying38, eqh38, eqFields]
  simp [eqFields, readT, ty_lay3, readAt, Tryz.underlying3]
  cases h1 : (a == c) <;> cases h2 : (b == d) <;> simp_all
noncomputable def c20 : FuncId → Option (List AV → Heap → Option (AV × Heap))
  | 38 => some (pureFn sp38)
  | 39 => some (pureFn sp39)
  | 41 => some (pureFn sp41)
  | 70 => some (pureFn sp70)
  | 71 => some (flatFn sp71)
  | 72 => some (pureFn sp72)
  | 73 => some (pureFn sp73)
  | 74 => some (pureFn sp74)
  | 77 => some (pureFn sp77)
  | 80 => some (pureFn sp80)
  | f => c25 cK f
theorem movedL_len (l : List Pt) (x y : Int) : (movedL l x y).length = l.length := by simp [movedL]
set_option maxHeartbeats 8000000 in
theorem T20 (sa ra xa ya : AV) (cx cy wx wy : Sp) (st : List Pt) (rs : List Rdg) (xs ys : List Int) (blank : Int) (hs : isSl sa (st.map ptC.enc)) (hr : isSl ra (rs.map rdgC.enc)) (hl : isSl xa (xs.map intC.enc)) (hl2 : isSl ya (ys.map intC.enc)) :
    ClR (dX c20) 20 [.agg [sa, .int .i64 cx.lo, .int .i64 cx.hi, .int .i64 cy.lo, .int .i64 cy.hi, .int .i64 wx.lo, .int .i64 wx.hi, .int .i64 wy.lo, .int .i64 wy.hi, ra], .agg [xa, ya], .int .i64 blank] emptyHp (isRet (.bool true)) := by
  have hp1 := hs.pur (enc_pur ptC st)
  have hp2 := hr.pur (enc_pur rdgC rs)
  have hp3 := hl.pur (enc_pur intC xs)
  have hp4 := hl2.pur (enc_pur intC ys)
  have o1 := hs.out
  have o2 := hr.out
  have o3 := hl.out
  have o4 := hl2.out
  have t1 := hs.tup
  have t2 := hr.tup
  have k25 : ∀ h, Cl (dX c20) 25 [] h (.ret (.bool true) h none) := fun h => K25 rfl h
  have K38 : ∀ h, Cl (dX c20) 38 [.agg [sa, .int .i64 cx.lo, .int .i64 cx.hi, .int .i64 cy.lo, .int .i64 cy.hi, .int .i64 wx.lo, .int .i64 wx.hi, .int .i64 wy.lo, .int .i64 wy.hi, ra]] h (.ret (.bool (decide ((st.length : Int) ≤ 6) && decide ((rs.length : Int) ≤ 6))) h none) := fun h => by
    have h1 := slLen_mk hs
    have h2 := slLen_mk hr
    exact Cl.intr (g := pureFn sp38) rfl (by simp [pureFn, AV.pur, AV.purL, hp1, hp2, sp38, h1, h2])
  have K70 : ∀ h, Cl (dX c20) 70 [.agg [xa, ya]] h (.ret (.bool (decide ((xs.length : Int) ≤ 15) && decide ((ys.length : Int) ≤ 15))) h none) := fun h => by
    have h1 := slLen_mk hl
    have h2 := slLen_mk hl2
    exact Cl.intr (g := pureFn sp70) rfl (by simp [pureFn, AV.pur, AV.purL, hp3, hp4, sp70, h1, h2])
  have n2 : ((2 : Int) != 0) = true := rfl
  have n7 : ((7 : Int) != 0) = true := rfl
  have n0 : ((0 : Int) != 0) = false := rfl
  have n77 : ((7 : Int) != 7) = false := rfl
  have e22 : ((2 : Int) == 2) = true := rfl
  have bt : (true && true) = true := rfl
  by_cases hsl : decide ((st.length : Int) ≤ 6) && decide ((rs.length : Int) ≤ 6)
  · have hsl2 : (decide ((st.length : Int) ≤ 6) && decide ((rs.length : Int) ≤ 6)) = true := hsl
    have k38 := K38
    rw [hsl2] at k38
    by_cases hbr : decide ((xs.length : Int) ≤ 15) && decide ((ys.length : Int) ≤ 15)
    · have hbr2 : (decide ((xs.length : Int) ≤ 15) && decide ((ys.length : Int) ≤ 15)) = true := hbr
      have k70 := K70
      rw [hbr2] at k70
      simp only [Bool.and_eq_true, decide_eq_true_eq] at hsl2 hbr2
      have v1 : slV ptC sa = some st := slV_mk hs (by unfold maxL; omega)
      have v2 : slV rdgC ra = some rs := slV_mk hr (by unfold maxL; omega)
      have v3 : slV intC xa = some xs := slV_mk hl (by unfold maxL; omega)
      have v4 : slV intC ya = some ys := slV_mk hl2 (by unfold maxL; omega)
      have hst : st.length ≤ 6 := by omega
      have K39' : ∀ h, Cl (dX c20) 39 [.agg [sa, .int .i64 cx.lo, .int .i64 cx.hi, .int .i64 cy.lo, .int .i64 cy.hi, .int .i64 wx.lo, .int .i64 wx.hi, .int .i64 wy.lo, .int .i64 wy.hi, ra], .int .i64 blank] h (.ret (knownV (machB st cx cy wx wy rs) (boundsS (ax0 cx wx rs [])) (boundsS (ax1 cy wy rs [])) blank) h none) := fun h =>
        Cl.intr (g := pureFn sp39) rfl (by simp [pureFn, AV.pur, AV.purL, hp1, hp2, sp39, v1, v2])
      have K77' : ∀ h, Cl (dX c20) 77 [.agg [sa, .int .i64 cx.lo, .int .i64 cx.hi, .int .i64 cy.lo, .int .i64 cy.hi, .int .i64 wx.lo, .int .i64 wx.hi, .int .i64 wy.lo, .int .i64 wy.hi, ra]] h (.ret (.int .i64 (ableI (machB st cx cy wx wy rs) ((boundsS (ax0 cx wx rs [])).isSome && (boundsS (ax1 cy wy rs [])).isSome))) h none) := fun h =>
        Cl.intr (g := pureFn sp77) rfl (by simp [pureFn, AV.pur, AV.purL, hp1, hp2, sp77, v1, v2])
      have k71 : ∀ h, Cl (dX c20) 71 [.agg [sa, .int .i64 cx.lo, .int .i64 cx.hi, .int .i64 cy.lo, .int .i64 cy.hi, .int .i64 wx.lo, .int .i64 wx.hi, .int .i64 wy.lo, .int .i64 wy.hi, ra]] h (.ret (.bool (machB st cx cy wx wy rs)) h none) := fun h => by
        have := K71 (X := dX c20) rfl sa ra st rs cx cy wx wy v1 v2 h
        rw [machR_B] at this
        exact this
      have k72 : ∀ h, Cl (dX c20) 72 [.agg [xa, ya]] h (.ret (.bool (truthB xs ys)) h none) := fun h => K72 (X := dX c20) rfl xa ya xs ys v3 v4 h
      have k41 : ∀ h, Cl (dX c20) 41 [.int .i64 blank, .int .i64 0] h (.ret (.bool (inB blank 0 12)) h none) := fun h => Cl.intr (g := pureFn sp41) rfl rfl
      have K73' : ∀ h, Cl (dX c20) 73 [.agg [sa, .int .i64 cx.lo, .int .i64 cx.hi, .int .i64 cy.lo, .int .i64 cy.hi, .int .i64 wx.lo, .int .i64 wx.hi, .int .i64 wy.lo, .int .i64 wy.hi, ra], .agg [xa, ya]] h (.ret (fitV (machB st cx cy wx wy rs && truthB xs ys) (fitsM cx cy wx wy rs xs ys)) h none) := fun h =>
        Cl.intr (g := pureFn sp73) rfl (by simp [pureFn, AV.pur, AV.purL, hp1, hp2, hp3, hp4, sp73, v1, v2, v3, v4])
      have K74' : ∀ h, Cl (dX c20) 74 [.agg [sa, .int .i64 cx.lo, .int .i64 cx.hi, .int .i64 cy.lo, .int .i64 cy.hi, .int .i64 wx.lo, .int .i64 wx.hi, .int .i64 wy.lo, .int .i64 wy.hi, ra], .agg [xa, ya], .int .i64 blank] h (.ret (holeV (machB st cx cy wx wy rs && truthB xs ys && fitsM cx cy wx wy rs xs ys && inB blank 0 12) (movedL st (xs.getD blank.toNat 0) (ys.getD blank.toNat 0))) h none) := fun h =>
        Cl.intr (g := pureFn sp74) rfl (by simp [pureFn, AV.pur, AV.purL, hp1, hp2, hp3, hp4, sp74, v1, v2, v3, v4])
      have hlen : truthB xs ys = true → xs.length = 13 ∧ ys.length = 13 := fun h => ⟨(truth_of h).1, (truth_of h).2.1⟩
      have hTX : machB st cx cy wx wy rs = true → truthB xs ys = true → fitsM cx cy wx wy rs xs ys = true → _ := fun h1 h2 h3 => true_x h1 h2 h3
      have hTY : machB st cx cy wx wy rs = true → truthB xs ys = true → fitsM cx cy wx wy rs xs ys = true → _ := fun h1 h2 h3 => true_y h1 h2 h3
      have V1 := Lib.hid v1
      have V3 := Lib.hid v3
      have V4 := Lib.hid v4
      clear hs hr hl hl2 hp1 hp2 hp3 hp4 v1 v2 v3 v4 hsl hsl2 hbr hbr2 K38 K70
      generalize machB st cx cy wx wy rs = ok at *
      generalize truthB xs ys = tr at *
      generalize fitsM cx cy wx wy rs xs ys = fb at *
      generalize boundsS (ax0 cx wx rs []) = A at *
      generalize boundsS (ax1 cy wy rs []) = B at *
      refine ClR.walk (c := _) rfl Tryz.func20 rfl (by kernel_rfl) rfl isRet_fail ?_
      simp only [entryEnv, Nat.reduceAdd]
      cases ok with
      | false =>
        clear K39' K73' K74' K77' hlen hTX hTY
        repeat' (first | (refine ⟨⟨trivial, trivial⟩, ?_⟩) | (refine ⟨⟨rfl, rfl⟩, ?_⟩) | (refine WQ.cons rfl rfl ?_) | (refine WT.cons rfl rfl ?_) | (refine WQ.nil ?_) | (refine WT.nil ?_; simp only [tN, bN, eN, true_and]) | (apply WQ.alloc; exact rfl; exact rfl; exact payR; simp only [pM, pN]) | refine W.seq ?_ | refine W.region ?_ | refine W.block ?_ | refine W.scope ?_ | refine WO.cons ?_ | (refine WO.nil ?_; simp only [tN, bN, eN, true_and]) | (apply WO1.rd; exact payR; exact rfl; simp only [pM, pN, rR, rP]) | (refine WO1.gyes (b := true) rfl rfl ?_ rfl ?_; exact payD) | (refine WO1.gno (b := true) rfl rfl ?_ rfl ?_; exact payD; simp only [pM, pN, rR, rP]) | (refine WO1.gyes (b := false) rfl rfl ?_ rfl ?_; exact payD) | (refine WO1.gno (b := false) rfl rfl ?_ rfl ?_; exact payD; simp only [pM, pN, rR, rP]) | (apply WO1.gsplit; exact rfl; exact rfl; exact payR; refine ⟨fun hh => ?_, fun hh => ?_⟩ <;> try simp only [Bool.not_true, Bool.not_false, pM, pN] at hh ⊢) | (apply WO1.call; exact payR; exact payR; (focus (simp only [List.nil_append, List.append_nil]; first | exact k25 _ | exact k38 _ | exact k70 _ | exact k71 _)); simp only [pM, pN, rR, rP]) | (apply WO1.ef; exact rfl; exact payE; simp only [pM, pN, rR, rP]) | (simp only [tP, bP, eP, true_and]) | (refine W.ret ?_; simp only [tR, bR, eR, true_and]) | (refine W.skip ?_; simp only [tN, bN, eN, true_and]) | (refine W.exit ?_; simp only [tX, bS, bO, Nat.reduceBEq, tN, bN]) | (refine W.condT ?_ ?_; exact payD) | (refine W.condF ?_ ?_; exact payD) | (apply W.condB; exact payR; refine ⟨fun hh => ?_, fun hh => ?_⟩))
        all_goals simp only [resV_def (X := dX c20) Tryz.func20, Tryz.results20, resultsV, resultV, go_sem, *, Nat.reduceLT, Int.reduceEq, Int.reduceBEq, Int.reduceLE, Int.reduceLT, Nat.reduceAdd, Nat.reduceBEq, Nat.reduceEqDiff, reduceIte, Nat.reduceLeDiff, Nat.reduceMul, Nat.reduceSub, reduceCtorEq, frzRes, dFrz, frzCells, isRet_ret, tupleOf]
      | true =>
        cases tr with
        | false =>
          clear K39' K73' K74' K77' hlen hTX hTY
          repeat' (first | (refine ⟨⟨trivial, trivial⟩, ?_⟩) | (refine ⟨⟨rfl, rfl⟩, ?_⟩) | (refine WQ.cons rfl rfl ?_) | (refine WT.cons rfl rfl ?_) | (refine WQ.nil ?_) | (refine WT.nil ?_; simp only [tN, bN, eN, true_and]) | (apply WQ.alloc; exact rfl; exact rfl; exact payR; simp only [pM, pN]) | refine W.seq ?_ | refine W.region ?_ | refine W.block ?_ | refine W.scope ?_ | refine WO.cons ?_ | (refine WO.nil ?_; simp only [tN, bN, eN, true_and]) | (apply WO1.rd; exact payR; exact rfl; simp only [pM, pN, rR, rP]) | (refine WO1.gyes (b := true) rfl rfl ?_ rfl ?_; exact payD) | (refine WO1.gno (b := true) rfl rfl ?_ rfl ?_; exact payD; simp only [pM, pN, rR, rP]) | (refine WO1.gyes (b := false) rfl rfl ?_ rfl ?_; exact payD) | (refine WO1.gno (b := false) rfl rfl ?_ rfl ?_; exact payD; simp only [pM, pN, rR, rP]) | (apply WO1.gsplit; exact rfl; exact rfl; exact payR; refine ⟨fun hh => ?_, fun hh => ?_⟩ <;> try simp only [Bool.not_true, Bool.not_false, pM, pN] at hh ⊢) | (apply WO1.call; exact payR; exact payR; (focus (simp only [List.nil_append, List.append_nil]; first | exact k25 _ | exact k38 _ | exact k70 _ | exact k71 _ | exact k72 _)); simp only [pM, pN, rR, rP]) | (apply WO1.ef; exact rfl; exact payE; simp only [pM, pN, rR, rP]) | (simp only [tP, bP, eP, true_and]) | (refine W.ret ?_; simp only [tR, bR, eR, true_and]) | (refine W.skip ?_; simp only [tN, bN, eN, true_and]) | (refine W.exit ?_; simp only [tX, bS, bO, Nat.reduceBEq, tN, bN]) | (refine W.condT ?_ ?_; exact payD) | (refine W.condF ?_ ?_; exact payD) | (apply W.condB; exact payR; refine ⟨fun hh => ?_, fun hh => ?_⟩))
          all_goals simp only [resV_def (X := dX c20) Tryz.func20, Tryz.results20, resultsV, resultV, go_sem, *, Nat.reduceLT, Int.reduceEq, Int.reduceBEq, Int.reduceLE, Int.reduceLT, Nat.reduceAdd, Nat.reduceBEq, Nat.reduceEqDiff, reduceIte, Nat.reduceLeDiff, Nat.reduceMul, Nat.reduceSub, reduceCtorEq, frzRes, dFrz, frzCells, isRet_ret, tupleOf]
        | true =>
          cases hin : inB blank 0 12 with
          | false =>
            clear K39' K73' K74' K77' hlen hTX hTY
            repeat' (first | (refine ⟨⟨trivial, trivial⟩, ?_⟩) | (refine ⟨⟨rfl, rfl⟩, ?_⟩) | (refine WQ.cons rfl rfl ?_) | (refine WT.cons rfl rfl ?_) | (refine WQ.nil ?_) | (refine WT.nil ?_; simp only [tN, bN, eN, true_and]) | (apply WQ.alloc; exact rfl; exact rfl; exact payR; simp only [pM, pN]) | refine W.seq ?_ | refine W.region ?_ | refine W.block ?_ | refine W.scope ?_ | refine WO.cons ?_ | (refine WO.nil ?_; simp only [tN, bN, eN, true_and]) | (apply WO1.rd; exact payR; exact rfl; simp only [pM, pN, rR, rP]) | (refine WO1.gyes (b := true) rfl rfl ?_ rfl ?_; exact payD) | (refine WO1.gno (b := true) rfl rfl ?_ rfl ?_; exact payD; simp only [pM, pN, rR, rP]) | (refine WO1.gyes (b := false) rfl rfl ?_ rfl ?_; exact payD) | (refine WO1.gno (b := false) rfl rfl ?_ rfl ?_; exact payD; simp only [pM, pN, rR, rP]) | (apply WO1.gsplit; exact rfl; exact rfl; exact payR; refine ⟨fun hh => ?_, fun hh => ?_⟩ <;> try simp only [Bool.not_true, Bool.not_false, pM, pN] at hh ⊢) | (apply WO1.call; exact payR; exact payR; (focus (simp only [List.nil_append, List.append_nil]; first | exact k25 _ | exact k38 _ | exact k70 _ | exact k71 _ | exact k72 _ | exact k41 _)); simp only [pM, pN, rR, rP]) | (apply WO1.ef; exact rfl; exact payE; simp only [pM, pN, rR, rP]) | (simp only [tP, bP, eP, true_and]) | (refine W.ret ?_; simp only [tR, bR, eR, true_and]) | (refine W.skip ?_; simp only [tN, bN, eN, true_and]) | (refine W.exit ?_; simp only [tX, bS, bO, Nat.reduceBEq, tN, bN]) | (refine W.condT ?_ ?_; exact payD) | (refine W.condF ?_ ?_; exact payD) | (apply W.condB; exact payR; refine ⟨fun hh => ?_, fun hh => ?_⟩))
            all_goals simp only [resV_def (X := dX c20) Tryz.func20, Tryz.results20, resultsV, resultV, go_sem, *, Nat.reduceLT, Int.reduceEq, Int.reduceBEq, Int.reduceLE, Int.reduceLT, Nat.reduceAdd, Nat.reduceBEq, Nat.reduceEqDiff, reduceIte, Nat.reduceLeDiff, Nat.reduceMul, Nat.reduceSub, reduceCtorEq, frzRes, dFrz, frzCells, isRet_ret, tupleOf]
          | true =>
            have hlen := hlen rfl
            have k73 := K73'
            simp only [fitV, Bool.and_self, if_true] at k73
            cases fb with
            | false =>
              clear K73' K74' hlen hTX hTY
              by_cases hAB : A.isSome && B.isSome
              · obtain ⟨a, rfl⟩ : ∃ a, A = some a := by cases A with | none => simp at hAB | some a => exact ⟨a, rfl⟩
                obtain ⟨b, rfl⟩ : ∃ b, B = some b := by cases B with | none => simp at hAB | some a => exact ⟨a, rfl⟩
                have k39 := K39'
                have k77 := K77'
                simp only [knownV, hin, ableI, Bool.and_self, if_true, Option.isSome_some, spC] at k39 k77
                generalize a.getD blank.toNat ⟨0, 0⟩ = p at *
                generalize b.getD blank.toNat ⟨0, 0⟩ = q at *
                clear K39' K77' hAB
                repeat' (first | (refine ⟨⟨trivial, trivial⟩, ?_⟩) | (refine ⟨⟨rfl, rfl⟩, ?_⟩) | (refine WQ.cons rfl rfl ?_) | (refine WT.cons rfl rfl ?_) | (refine WQ.nil ?_) | (refine WT.nil ?_; simp only [tN, bN, eN, true_and]) | (apply WQ.alloc; exact rfl; exact rfl; exact payR; simp only [pM, pN]) | refine W.seq ?_ | refine W.region ?_ | refine W.block ?_ | refine W.scope ?_ | refine WO.cons ?_ | (refine WO.nil ?_; simp only [tN, bN, eN, true_and]) | (apply WO1.rd; exact payR; exact rfl; simp only [pM, pN, rR, rP]) | (refine WO1.gyes (b := true) rfl rfl ?_ rfl ?_; exact payD) | (refine WO1.gno (b := true) rfl rfl ?_ rfl ?_; exact payD; simp only [pM, pN, rR, rP]) | (refine WO1.gyes (b := false) rfl rfl ?_ rfl ?_; exact payD) | (refine WO1.gno (b := false) rfl rfl ?_ rfl ?_; exact payD; simp only [pM, pN, rR, rP]) | (apply WO1.gsplit; exact rfl; exact rfl; exact payR; refine ⟨fun hh => ?_, fun hh => ?_⟩ <;> try simp only [Bool.not_true, Bool.not_false, pM, pN] at hh ⊢) | (apply WO1.call; exact payR; exact payR; (focus (simp only [List.nil_append, List.append_nil]; first | exact k25 _ | exact k38 _ | exact k70 _ | exact k71 _ | exact k72 _ | exact k41 _ | exact k73 _ | exact k39 _ | exact k77 _)); simp only [pM, pN, rR, rP]) | (apply WO1.ef; exact rfl; exact payE; simp only [pM, pN, rR, rP]) | (simp only [tP, bP, eP, true_and]) | (refine W.ret ?_; simp only [tR, bR, eR, true_and]) | (refine W.skip ?_; simp only [tN, bN, eN, true_and]) | (refine W.exit ?_; simp only [tX, bS, bO, Nat.reduceBEq, tN, bN]) | (refine W.condT ?_ ?_; exact payD) | (refine W.condF ?_ ?_; exact payD) | (apply W.condB; exact payR; refine ⟨fun hh => ?_, fun hh => ?_⟩))
                all_goals simp only [resV_def (X := dX c20) Tryz.func20, Tryz.results20, resultsV, resultV, go_sem, *, Nat.reduceLT, Int.reduceEq, Int.reduceBEq, Int.reduceLE, Int.reduceLT, Nat.reduceAdd, Nat.reduceBEq, Nat.reduceEqDiff, reduceIte, Nat.reduceLeDiff, Nat.reduceMul, Nat.reduceSub, reduceCtorEq, frzRes, dFrz, frzCells, isRet_ret, tupleOf]
              · have hAB : (A.isSome && B.isSome) = false := by simpa using hAB
                have k39 := K39'
                have k77 := K77'
                have hk : knownV true A B blank = .tuple [.agg [.int .i64 0, .int .i64 0], .agg [.int .i64 0, .int .i64 0], .int .i64 7] := by
                  unfold knownV
                  rw [hin]
                  simp only [Bool.and_self, if_true]
                  cases A <;> cases B <;> first | rfl | simp at hAB
                rw [hk] at k39
                simp only [ableI, hAB, Bool.false_eq_true, if_false, if_true] at k77
                clear K39' K77' hAB hk
                repeat' (first | (refine ⟨⟨trivial, trivial⟩, ?_⟩) | (refine ⟨⟨rfl, rfl⟩, ?_⟩) | (refine WQ.cons rfl rfl ?_) | (refine WT.cons rfl rfl ?_) | (refine WQ.nil ?_) | (refine WT.nil ?_; simp only [tN, bN, eN, true_and]) | (apply WQ.alloc; exact rfl; exact rfl; exact payR; simp only [pM, pN]) | refine W.seq ?_ | refine W.region ?_ | refine W.block ?_ | refine W.scope ?_ | refine WO.cons ?_ | (refine WO.nil ?_; simp only [tN, bN, eN, true_and]) | (apply WO1.rd; exact payR; exact rfl; simp only [pM, pN, rR, rP]) | (refine WO1.gyes (b := true) rfl rfl ?_ rfl ?_; exact payD) | (refine WO1.gno (b := true) rfl rfl ?_ rfl ?_; exact payD; simp only [pM, pN, rR, rP]) | (refine WO1.gyes (b := false) rfl rfl ?_ rfl ?_; exact payD) | (refine WO1.gno (b := false) rfl rfl ?_ rfl ?_; exact payD; simp only [pM, pN, rR, rP]) | (apply WO1.gsplit; exact rfl; exact rfl; exact payR; refine ⟨fun hh => ?_, fun hh => ?_⟩ <;> try simp only [Bool.not_true, Bool.not_false, pM, pN] at hh ⊢) | (apply WO1.call; exact payR; exact payR; (focus (simp only [List.nil_append, List.append_nil]; first | exact k25 _ | exact k38 _ | exact k70 _ | exact k71 _ | exact k72 _ | exact k41 _ | exact k73 _ | exact k39 _ | exact k77 _)); simp only [pM, pN, rR, rP]) | (apply WO1.ef; exact rfl; exact payE; simp only [pM, pN, rR, rP]) | (simp only [tP, bP, eP, true_and]) | (refine W.ret ?_; simp only [tR, bR, eR, true_and]) | (refine W.skip ?_; simp only [tN, bN, eN, true_and]) | (refine W.exit ?_; simp only [tX, bS, bO, Nat.reduceBEq, tN, bN]) | (refine W.condT ?_ ?_; exact payD) | (refine W.condF ?_ ?_; exact payD) | (apply W.condB; exact payR; refine ⟨fun hh => ?_, fun hh => ?_⟩))
                all_goals simp only [resV_def (X := dX c20) Tryz.func20, Tryz.results20, resultsV, resultV, go_sem, *, Nat.reduceLT, Int.reduceEq, Int.reduceBEq, Int.reduceLE, Int.reduceLT, Nat.reduceAdd, Nat.reduceBEq, Nat.reduceEqDiff, reduceIte, Nat.reduceLeDiff, Nat.reduceMul, Nat.reduceSub, reduceCtorEq, frzRes, dFrz, frzCells, isRet_ret, tupleOf]
            | true =>
              obtain ⟨a, rfl, ha1, ha2⟩ := hTX rfl rfl rfl
              obtain ⟨b, rfl, hb1, hb2⟩ := hTY rfl rfl rfl
              have hb := hin
              simp only [inB, Bool.and_eq_true, decide_eq_true_eq] at hb
              obtain ⟨k, rfl⟩ : ∃ k : Nat, blank = k := ⟨blank.toNat, by omega⟩
              obtain ⟨p, hp⟩ := get_some (show k < xs.length by omega)
              obtain ⟨q, hq⟩ := get_some (show k < ys.length by omega)
              have i1 := int_idx V3.out hp
              have i2 := int_idx V4.out hq
              have e1 : xs.getD (k : Int).toNat 0 = p := by simp [List.getD, hp]
              have e2 : ys.getD (k : Int).toNat 0 = q := by simp [List.getD, hq]
              have ga := ha2 k (by omega)
              have gb := hb2 k (by omega)
              have e3 : xs.getD k 0 = p := by simp [List.getD, hp]
              have e4 : ys.getD k 0 = q := by simp [List.getD, hq]
              rw [e3] at ga
              rw [e4] at gb
              have k74 := K74'
              have k39 := K39'
              have k77 := K77'
              rw [e1, e2] at k74
              simp only [holeV, hin, Bool.and_self, if_true] at k74
              simp only [knownV, hin, ableI, Bool.and_self, if_true, Option.isSome_some, spC, Int.toNat_natCast] at k39 k77
              generalize a.getD k ⟨0, 0⟩ = u1 at *
              generalize b.getD k ⟨0, 0⟩ = u2 at *
              have x1 : decide (p < u1.lo) = false := decide_eq_false (by have := ga.1; omega)
              have x2 : decide (p > u1.hi) = false := decide_eq_false (by have := ga.2; omega)
              have x3 : decide (q < u2.lo) = false := decide_eq_false (by have := gb.1; omega)
              have x4 : decide (q > u2.hi) = false := decide_eq_false (by have := gb.2; omega)
              have hsN : slV ptC (slN ((movedL st p q).map ptC.enc)) = some (movedL st p q) := slV_slN (by simp only [movedL, List.length_map]; unfold maxL; omega)
              have hoN := sl_out hsN
              have hlN := sl_len hsN
              have hl1 := sl_len V1.out
              have hnn : ((st.length : Int) != (st.length : Int)) = false := by simp
              rw [movedL_len] at hlN
              have HSN := Lib.hid hsN
              clear K39' K73' K74' K77' hlen hb hp hq e1 e2 e3 e4 ga gb hsN ha1 ha2 hb1 hb2 hTX hTY
              generalize slN ((movedL st p q).map ptC.enc) = u at *
              repeat' (first | (apply W.drawQ (id := 10) (l1 := [0, 1, 2, 3, 4, 5, 6, 7, 8, 9, 10, 11, 12, 13, 14, 15, 16, 17, 18, 19, 20, 21, 22, 23, 24, 25, 26, 27, 28, 29, 30, 31, 32, 33, 34, 35, 36, 37, 38, 39, 40, 41, 42, 43, 44, 45, 46, 47, 48, 49, 50, 51, 52, 53]) (l2 := []); kernel_rfl; kernel_rfl; kernel_rfl; exact payP) | (apply W.drawQ (id := 15) (l1 := [0, 1, 2, 3, 4, 5, 6, 7, 8, 9, 10, 11, 12, 13, 14, 15, 16, 17, 18, 19, 20, 21, 22, 23, 24, 25, 26, 27, 28, 29]) (l2 := []); kernel_rfl; kernel_rfl; kernel_rfl; exact payP) | (refine ⟨⟨trivial, trivial⟩, ?_⟩) | (refine ⟨⟨rfl, rfl⟩, ?_⟩) | (refine WQ.cons rfl rfl ?_) | (refine WT.cons rfl rfl ?_) | (refine WQ.nil ?_) | (refine WT.nil ?_; simp only [tN, bN, eN, true_and]) | (apply WQ.alloc; exact rfl; exact rfl; exact payR; simp only [pM, pN]) | refine W.seq ?_ | refine W.region ?_ | refine W.block ?_ | refine W.scope ?_ | refine WO.cons ?_ | (refine WO.nil ?_; simp only [tN, bN, eN, true_and]) | (apply WO1.rd; exact payR; exact rfl; simp only [pM, pN, rR, rP]) | (refine WO1.gyes (b := true) rfl rfl ?_ rfl ?_; exact payD) | (refine WO1.gno (b := true) rfl rfl ?_ rfl ?_; exact payD; simp only [pM, pN, rR, rP]) | (refine WO1.gyes (b := false) rfl rfl ?_ rfl ?_; exact payD) | (refine WO1.gno (b := false) rfl rfl ?_ rfl ?_; exact payD; simp only [pM, pN, rR, rP]) | (apply WO1.gsplit; exact rfl; exact rfl; exact payR; refine ⟨fun hh => ?_, fun hh => ?_⟩ <;> try simp only [Bool.not_true, Bool.not_false, pM, pN] at hh ⊢) | (apply WO1.call; exact payR; exact payR; (focus (simp only [List.nil_append, List.append_nil]; first | exact k25 _ | exact k38 _ | exact k70 _ | exact k71 _ | exact k72 _ | exact k41 _ | exact k73 _ | exact k39 _ | exact k77 _ | exact k74 _)); simp only [pM, pN, rR, rP]) | (apply WO1.ef; exact rfl; exact payE; simp only [pM, pN, rR, rP]) | (simp only [tP, bP, eP, true_and]) | (refine W.ret ?_; simp only [tR, bR, eR, true_and]) | (refine W.skip ?_; simp only [tN, bN, eN, true_and]) | (refine W.exit ?_; simp only [tX, bS, bO, Nat.reduceBEq, tN, bN]) | (refine W.condT ?_ ?_; exact payD) | (refine W.condF ?_ ?_; exact payD) | (apply W.condB; exact payR; refine ⟨fun hh => ?_, fun hh => ?_⟩))
              refine W.loopN st.length (fun i F => ∃ e lm hp, F = Fr.mk 20 false e lm hp [] none ∧ lm.get 3 = some (0, [sa, .int .i64 cx.lo, .int .i64 cx.hi, .int .i64 cy.lo, .int .i64 cy.hi, .int .i64 wx.lo, .int .i64 wx.hi, .int .i64 wy.lo, .int .i64 wy.hi, ra]) ∧ lm.get 4 = some (0, [xa, ya]) ∧ e.get 2 = some (.int .i64 ↑k) ∧ e.get 3 = some (.lptr 3 0 0) ∧ e.get 4 = some (.lptr 4 0 0) ∧ e.get 12 = some u ∧ e.get 14 = some (.int .i64 ↑i) ∧ i ≤ st.length) ?_ ?_
              · refine ⟨_, _, _, rfl, ?_, ?_, ?_, ?_, ?_, ?_, ?_, ?_⟩ <;> first | exact payD | simp [go_sem, *, Nat.reduceLT, Int.reduceEq, Int.reduceBEq, Int.reduceLE, Int.reduceLT, Nat.reduceAdd, Nat.reduceBEq, Nat.reduceEqDiff, reduceIte, Nat.reduceLeDiff, Nat.reduceMul, Nat.reduceSub, reduceCtorEq]
              rintro i F ⟨e, lm, hp, rfl, m3, m4, h2, h3, h4, h12, h14, hi⟩
              by_cases hlt : i < st.length
              · obtain ⟨r, hr⟩ := get_some hlt
                have hix := pts_idx V1.out hr
                have hrm : (movedL st p q)[i]? = some ⟨w64 (r.x + p), w64 (r.y + q)⟩ := by simp [movedL, hr]
                have hiy := pts_idx HSN.out hrm
                have hd : decide ((i : Int) < (st.length : Int)) = true := by simpa using hlt
                have hw := wrap_succ (m := st.length) hlt (by unfold maxL; omega)
                have w1 : IntKind.i64.wrap (r.x + p) = w64 (r.x + p) := rfl
                have w2 : IntKind.i64.wrap (r.y + q) = w64 (r.y + q) := rfl
                simp only [] at hiy
                generalize w64 (r.x + p) = z1 at *
                generalize w64 (r.y + q) = z2 at *
                have b1 : (z1 == z1) = true := beq_self_eq_true _
                have b2 : (z2 == z2) = true := beq_self_eq_true _
                have hn38 := neq38 z1 z2 z1 z2
                clear hrm hr
                repeat' (first | (apply W.drawQ (id := 10) (l1 := [0, 1, 2, 3, 4, 5, 6, 7, 8, 9, 10, 11, 12, 13, 14, 15, 16, 17, 18, 19, 20, 21, 22, 23, 24, 25, 26, 27, 28, 29, 30, 31, 32, 33, 34, 35, 36, 37, 38, 39, 40, 41, 42, 43, 44, 45, 46, 47, 48, 49, 50, 51, 52, 53]) (l2 := []); kernel_rfl; kernel_rfl; kernel_rfl; exact payP) | (apply W.drawQ (id := 15) (l1 := [0, 1, 2, 3, 4, 5, 6, 7, 8, 9, 10, 11, 12, 13, 14, 15, 16, 17, 18, 19, 20, 21, 22, 23, 24, 25, 26, 27, 28, 29]) (l2 := []); kernel_rfl; kernel_rfl; kernel_rfl; exact payP) | (refine ⟨⟨trivial, trivial⟩, ?_⟩) | (refine ⟨⟨rfl, rfl⟩, ?_⟩) | (refine WQ.cons rfl rfl ?_) | (refine WT.cons rfl rfl ?_) | (refine WQ.nil ?_) | (refine WT.nil ?_; simp only [tN, bN, eN, true_and]) | (apply WQ.alloc; exact rfl; exact rfl; exact payR; simp only [pM, pN]) | refine W.seq ?_ | refine W.region ?_ | refine W.block ?_ | refine W.scope ?_ | refine WO.cons ?_ | (refine WO.nil ?_; simp only [tN, bN, eN, true_and]) | (apply WO1.rd; exact payR; exact rfl; simp only [pM, pN, rR, rP]) | (refine WO1.gyes (b := true) rfl rfl ?_ rfl ?_; exact payD) | (refine WO1.gno (b := true) rfl rfl ?_ rfl ?_; exact payD; simp only [pM, pN, rR, rP]) | (refine WO1.gyes (b := false) rfl rfl ?_ rfl ?_; exact payD) | (refine WO1.gno (b := false) rfl rfl ?_ rfl ?_; exact payD; simp only [pM, pN, rR, rP]) | (apply WO1.gsplit; exact rfl; exact rfl; exact payR; refine ⟨fun hh => ?_, fun hh => ?_⟩ <;> try simp only [Bool.not_true, Bool.not_false, pM, pN] at hh ⊢) | (apply WO1.call; exact payR; exact payR; (focus (simp only [List.nil_append, List.append_nil]; first | exact K80 rfl _ _ _)); simp only [pM, pN, rR, rP]) | (apply WO1.ef; exact rfl; exact payE; simp only [pM, pN, rR, rP]) | (simp only [tP, bP, eP, true_and]) | (refine W.ret ?_; simp only [tR, bR, eR, true_and]) | (refine W.skip ?_; simp only [tN, bN, eN, true_and]) | (refine W.exit ?_; simp only [tX, bS, bO, Nat.reduceBEq, tN, bN]) | (refine W.condT ?_ ?_; exact payD) | (refine W.condF ?_ ?_; exact payD) | (apply W.condB; exact payR; refine ⟨fun hh => ?_, fun hh => ?_⟩))
                refine ⟨hlt, _, _, _, rfl, ?_, ?_, ?_, ?_, ?_, ?_, ?_, by omega⟩
                all_goals exact payD
              · have hd : decide ((i : Int) < (st.length : Int)) = false := by simpa using hlt
                repeat' (first | (refine ⟨⟨trivial, trivial⟩, ?_⟩) | (refine ⟨⟨rfl, rfl⟩, ?_⟩) | (refine WQ.cons rfl rfl ?_) | (refine WT.cons rfl rfl ?_) | (refine WQ.nil ?_) | (refine WT.nil ?_; simp only [tN, bN, eN, true_and]) | (apply WQ.alloc; exact rfl; exact rfl; exact payR; simp only [pM, pN]) | refine W.seq ?_ | refine W.region ?_ | refine W.block ?_ | refine W.scope ?_ | refine WO.cons ?_ | (refine WO.nil ?_; simp only [tN, bN, eN, true_and]) | (apply WO1.rd; exact payR; exact rfl; simp only [pM, pN, rR, rP]) | (refine WO1.gyes (b := true) rfl rfl ?_ rfl ?_; exact payD) | (refine WO1.gno (b := true) rfl rfl ?_ rfl ?_; exact payD; simp only [pM, pN, rR, rP]) | (refine WO1.gyes (b := false) rfl rfl ?_ rfl ?_; exact payD) | (refine WO1.gno (b := false) rfl rfl ?_ rfl ?_; exact payD; simp only [pM, pN, rR, rP]) | (apply WO1.gsplit; exact rfl; exact rfl; exact payR; refine ⟨fun hh => ?_, fun hh => ?_⟩ <;> try simp only [Bool.not_true, Bool.not_false, pM, pN] at hh ⊢) | (apply WO1.call; exact payR; exact payR; (focus (simp only [List.nil_append, List.append_nil]; first | exact k25 _)); simp only [pM, pN, rR, rP]) | (apply WO1.ef; exact rfl; exact payE; simp only [pM, pN, rR, rP]) | (simp only [tP, bP, eP, true_and]) | (refine W.ret ?_; simp only [tR, bR, eR, true_and]) | (refine W.skip ?_; simp only [tN, bN, eN, true_and]) | (refine W.exit ?_; simp only [tX, bS, bO, Nat.reduceBEq, tN, bN]) | (refine W.condT ?_ ?_; exact payD) | (refine W.condF ?_ ?_; exact payD) | (apply W.condB; exact payR; refine ⟨fun hh => ?_, fun hh => ?_⟩))
                all_goals simp only [resV_def (X := dX c20) Tryz.func20, Tryz.results20, resultsV, resultV, go_sem, *, Nat.reduceLT, Int.reduceEq, Int.reduceBEq, Int.reduceLE, Int.reduceLT, Nat.reduceAdd, Nat.reduceBEq, Nat.reduceEqDiff, reduceIte, Nat.reduceLeDiff, Nat.reduceMul, Nat.reduceSub, reduceCtorEq, frzRes, dFrz, frzCells, isRet_ret, tupleOf]
    · have hbr2 : (decide ((xs.length : Int) ≤ 15) && decide ((ys.length : Int) ≤ 15)) = false := by simpa using hbr
      have k70 := K70
      rw [hbr2] at k70
      clear hs hr hl hl2 hp1 hp2 hp3 hp4 hsl hsl2 hbr hbr2 K38 K70
      refine ClR.walk (c := _) rfl Tryz.func20 rfl (by kernel_rfl) rfl isRet_fail ?_
      simp only [entryEnv, Nat.reduceAdd]
      repeat' (first | (refine ⟨⟨trivial, trivial⟩, ?_⟩) | (refine ⟨⟨rfl, rfl⟩, ?_⟩) | (refine WQ.cons rfl rfl ?_) | (refine WT.cons rfl rfl ?_) | (refine WQ.nil ?_) | (refine WT.nil ?_; simp only [tN, bN, eN, true_and]) | (apply WQ.alloc; exact rfl; exact rfl; exact payR; simp only [pM, pN]) | refine W.seq ?_ | refine W.region ?_ | refine W.block ?_ | refine W.scope ?_ | refine WO.cons ?_ | (refine WO.nil ?_; simp only [tN, bN, eN, true_and]) | (apply WO1.rd; exact payR; exact rfl; simp only [pM, pN, rR, rP]) | (refine WO1.gyes (b := true) rfl rfl ?_ rfl ?_; exact payD) | (refine WO1.gno (b := true) rfl rfl ?_ rfl ?_; exact payD; simp only [pM, pN, rR, rP]) | (refine WO1.gyes (b := false) rfl rfl ?_ rfl ?_; exact payD) | (refine WO1.gno (b := false) rfl rfl ?_ rfl ?_; exact payD; simp only [pM, pN, rR, rP]) | (apply WO1.gsplit; exact rfl; exact rfl; exact payR; refine ⟨fun hh => ?_, fun hh => ?_⟩ <;> try simp only [Bool.not_true, Bool.not_false, pM, pN] at hh ⊢) | (apply WO1.call; exact payR; exact payR; (focus (simp only [List.nil_append, List.append_nil]; first | exact k25 _ | exact k38 _ | exact k70 _)); simp only [pM, pN, rR, rP]) | (apply WO1.ef; exact rfl; exact payE; simp only [pM, pN, rR, rP]) | (simp only [tP, bP, eP, true_and]) | (refine W.ret ?_; simp only [tR, bR, eR, true_and]) | (refine W.skip ?_; simp only [tN, bN, eN, true_and]) | (refine W.exit ?_; simp only [tX, bS, bO, Nat.reduceBEq, tN, bN]) | (refine W.condT ?_ ?_; exact payD) | (refine W.condF ?_ ?_; exact payD) | (apply W.condB; exact payR; refine ⟨fun hh => ?_, fun hh => ?_⟩))
      all_goals simp only [resV_def (X := dX c20) Tryz.func20, Tryz.results20, resultsV, resultV, go_sem, *, Nat.reduceLT, Int.reduceEq, Int.reduceBEq, Int.reduceLE, Int.reduceLT, Nat.reduceAdd, Nat.reduceBEq, Nat.reduceEqDiff, reduceIte, Nat.reduceLeDiff, Nat.reduceMul, Nat.reduceSub, reduceCtorEq, frzRes, dFrz, frzCells, isRet_ret, tupleOf]
  · have hsl2 : (decide ((st.length : Int) ≤ 6) && decide ((rs.length : Int) ≤ 6)) = false := by simpa using hsl
    have k38 := K38
    rw [hsl2] at k38
    clear hs hr hl hl2 hp1 hp2 hp3 hp4 hsl hsl2 K38 K70
    refine ClR.walk (c := _) rfl Tryz.func20 rfl (by kernel_rfl) rfl isRet_fail ?_
    simp only [entryEnv, Nat.reduceAdd]
    repeat' (first | (refine ⟨⟨trivial, trivial⟩, ?_⟩) | (refine ⟨⟨rfl, rfl⟩, ?_⟩) | (refine WQ.cons rfl rfl ?_) | (refine WT.cons rfl rfl ?_) | (refine WQ.nil ?_) | (refine WT.nil ?_; simp only [tN, bN, eN, true_and]) | (apply WQ.alloc; exact rfl; exact rfl; exact payR; simp only [pM, pN]) | refine W.seq ?_ | refine W.region ?_ | refine W.block ?_ | refine W.scope ?_ | refine WO.cons ?_ | (refine WO.nil ?_; simp only [tN, bN, eN, true_and]) | (apply WO1.rd; exact payR; exact rfl; simp only [pM, pN, rR, rP]) | (refine WO1.gyes (b := true) rfl rfl ?_ rfl ?_; exact payD) | (refine WO1.gno (b := true) rfl rfl ?_ rfl ?_; exact payD; simp only [pM, pN, rR, rP]) | (refine WO1.gyes (b := false) rfl rfl ?_ rfl ?_; exact payD) | (refine WO1.gno (b := false) rfl rfl ?_ rfl ?_; exact payD; simp only [pM, pN, rR, rP]) | (apply WO1.gsplit; exact rfl; exact rfl; exact payR; refine ⟨fun hh => ?_, fun hh => ?_⟩ <;> try simp only [Bool.not_true, Bool.not_false, pM, pN] at hh ⊢) | (apply WO1.call; exact payR; exact payR; (focus (simp only [List.nil_append, List.append_nil]; first | exact k25 _ | exact k38 _)); simp only [pM, pN, rR, rP]) | (apply WO1.ef; exact rfl; exact payE; simp only [pM, pN, rR, rP]) | (simp only [tP, bP, eP, true_and]) | (refine W.ret ?_; simp only [tR, bR, eR, true_and]) | (refine W.skip ?_; simp only [tN, bN, eN, true_and]) | (refine W.exit ?_; simp only [tX, bS, bO, Nat.reduceBEq, tN, bN]) | (refine W.condT ?_ ?_; exact payD) | (refine W.condF ?_ ?_; exact payD) | (apply W.condB; exact payR; refine ⟨fun hh => ?_, fun hh => ?_⟩))
    all_goals simp only [resV_def (X := dX c20) Tryz.func20, Tryz.results20, resultsV, resultV, go_sem, *, Nat.reduceLT, Int.reduceEq, Int.reduceBEq, Int.reduceLE, Int.reduceLT, Nat.reduceAdd, Nat.reduceBEq, Nat.reduceEqDiff, reduceIte, Nat.reduceLeDiff, Nat.reduceMul, Nat.reduceSub, reduceCtorEq, frzRes, dFrz, frzCells, isRet_ret, tupleOf]
end Go.AM
set_option maxRecDepth 100000
namespace Go.AM
open Go Go.Proofs
variable [Keep]
theorem ag48 : isAggT Tryz.prog 48 = true := by simp [isAggT, Tryz.underlying48]
theorem ag51 : isAggT Tryz.prog 51 = true := by simp [isAggT, Tryz.underlying51]
theorem ag95 : isAggT Tryz.prog 95 = true := by simp [isAggT, Tryz.underlying95]
theorem Sh.sp {n : Nat} {xs : List AV} (h : Sh Tryz.prog (n + 2) 48 xs) : ∃ p : Sp, xs = [.int .i64 p.lo, .int .i64 p.hi] := by
  obtain ⟨x, y, rfl, h1, x2, y2, rfl, h2, rfl⟩ := Sh.struct Tryz.underlying48 h
  obtain ⟨a, rfl⟩ := Sh.i64 h1
  obtain ⟨b, rfl⟩ := Sh.i64 h2
  exact ⟨⟨a, b⟩, rfl⟩
theorem Sh.rdg {n : Nat} {xs : List AV} (h : Sh Tryz.prog (n + 2) 95 xs) : ∃ p : Rdg, xs = [.int .i64 p.b, .int .i64 p.x, .int .i64 p.y, .int .i64 p.err] := by
  obtain ⟨x, y, rfl, h1, x2, y2, rfl, h2, x3, y3, rfl, h3, x4, y4, rfl, h4, rfl⟩ := Sh.struct Tryz.underlying95 h
  obtain ⟨a, rfl⟩ := Sh.i64 h1
  obtain ⟨b, rfl⟩ := Sh.i64 h2
  obtain ⟨c, rfl⟩ := Sh.i64 h3
  obtain ⟨d, rfl⟩ := Sh.i64 h4
  exact ⟨⟨a, b, c, d⟩, rfl⟩
theorem Sh.rdgs {n : Nat} {xs : List AV} (h : Sh Tryz.prog (n + 3) 49 xs) : ∃ (a : AV) (l : List Rdg), xs = [a] ∧ isSl a (l.map rdgC.enc) :=
  Sh.slice rdgC Tryz.underlying49 (fun xs h => by
    obtain ⟨p, rfl⟩ := Sh.rdg h
    exact ⟨p, by rw [ag95]; rfl⟩) h
theorem Sh.mach {n : Nat} {xs : List AV} (h : Sh Tryz.prog (n + 4) 51 xs) : ∃ (sa ra : AV) (cx cy wx wy : Sp) (st : List Pt) (rs : List Rdg),
    xs = [sa, .int .i64 cx.lo, .int .i64 cx.hi, .int .i64 cy.lo, .int .i64 cy.hi, .int .i64 wx.lo, .int .i64 wx.hi, .int .i64 wy.lo, .int .i64 wy.hi, ra] ∧ isSl sa (st.map ptC.enc) ∧ isSl ra (rs.map rdgC.enc) := by
  obtain ⟨x1, y1, rfl, h1, x2, y2, rfl, h2, x3, y3, rfl, h3, x4, y4, rfl, h4, x5, y5, rfl, h5, x6, y6, rfl, h6, rfl⟩ := Sh.struct Tryz.underlying51 h
  obtain ⟨sa, st, rfl, hs⟩ := Sh.pts h1
  obtain ⟨cx, rfl⟩ := Sh.sp h2
  obtain ⟨cy, rfl⟩ := Sh.sp h3
  obtain ⟨wx, rfl⟩ := Sh.sp h4
  obtain ⟨wy, rfl⟩ := Sh.sp h5
  obtain ⟨ra, rs, rfl, hr⟩ := Sh.rdgs h6
  exact ⟨sa, ra, cx, cy, wx, wy, st, rs, rfl, hs, hr⟩
theorem ag39 : isAggT Tryz.prog 39 = false := by simp [isAggT, Tryz.underlying39]
theorem ag109 : isAggT Tryz.prog 109 = true := by simp [isAggT, Tryz.underlying109]
theorem Sh.ints {n : Nat} {xs : List AV} (h : Sh Tryz.prog (n + 2) 39 xs) : ∃ (a : AV) (l : List Int), xs = [a] ∧ isSl a (l.map intC.enc) :=
  Sh.slice intC Tryz.underlying39 (fun xs h => by
    obtain ⟨i, rfl⟩ := Sh.i64 h
    exact ⟨i, by rw [ag3]; rfl⟩) h
theorem Sh.truth {n : Nat} {xs : List AV} (h : Sh Tryz.prog (n + 3) 109 xs) : ∃ (xa ya : AV) (l r : List Int), xs = [xa, ya] ∧ isSl xa (l.map intC.enc) ∧ isSl ya (r.map intC.enc) := by
  obtain ⟨x1, y1, rfl, h1, x2, y2, rfl, h2, rfl⟩ := Sh.struct Tryz.underlying109 h
  obtain ⟨xa, l, rfl, hl⟩ := Sh.ints h1
  obtain ⟨ya, r, rfl, hr⟩ := Sh.ints h2
  exact ⟨xa, ya, l, r, rfl, hl, hr⟩
end Go.AM
set_option maxRecDepth 100000
namespace Go.AM
open Go Go.Proofs
variable [Keep]
theorem c20_sound (hT : TabK Tryz.prog) : Sound (dX c20) := dX_sound (fun f g h => by
  unfold c20 at h
  split at h
  · cases h; exact F38
  · cases h; exact F39
  · cases h; exact F41
  · cases h; exact F70
  · cases h; exact F71
  · cases h; exact F72
  · cases h; exact F73
  · cases h; exact F74
  · cases h; exact F77
  · cases h; exact F80
  · exact (c25_sound hT).intr f g h)
end Go.AM
namespace Go.Proofs.YtlhcjccaimmhgaaGreatDoor
open Go Go.AM Go.ChangeShapes Go.WideShapes Go.ChangeAt Go.RowKit
theorem law20 [Keep] (hT : TabK Tryz.prog) (avs : List AV) (h : ArgsOk Tryz.prog Tryz.f20.params.toList avs) : ∃ X, X.P = Tryz.prog ∧ Sound X ∧ ∃ h', Cl X 20 avs emptyHp (.ret (.bool true) h' none) := by
  rw [Tryz.params20] at h
  rcases h with _ | ⟨k1, _ | ⟨k3, _ | ⟨k2, _ | _⟩⟩⟩
  obtain ⟨sa, ra, cx, cy, wx, wy, st, rs, rfl, hs, hr⟩ := Sh.mach k1
  obtain ⟨xa, ya, xs, ys, rfl, hl, hl2⟩ := Sh.truth k3
  obtain ⟨n, rfl⟩ := Sh.i64 k2
  rw [ag51, ag109, ag3]
  exact ⟨dX c20, rfl, c20_sound hT, (T20 sa ra xa ya cx cy wx wy st rs xs ys n hs hr hl hl2).gives⟩
theorem drillTrue_lifted (os : Os) (started : os.Started) (H : Type) (enc : TypeId × Value → H) :
    ReturnsInHanded {} Tryz.checked os 20 .any (fun w args => (Rows.drillTrueSpec.pre enc Tryz.prog Tryz.f20 Rows.drillTrueRow.domain false w args ∧ laidMetH Tryz.prog laidL w) ∧ sizedMet enc Tryz.prog Tryz.f20 (OpenSpec.ofChange Rows.drillTrueSpec) false w args)
      (Rows.drillTrueSpec.post enc Tryz.prog Tryz.f20 false true false false) := by
  refine returnsInHanded_of_change_and (C := Tryz.checked) (X := fun w _ => laidMetH Tryz.prog laidL w) (fun _ _ _ hh h => h.of_heap hh) own started (by kernel_rfl) Tryz.func20
    (ChangeSpec.witness_shaped (enc := enc) (C := Tryz.checked) (os := os) (X := fun w _ => laidMetH Tryz.prog laidL w) false (World.laidAll Tryz.prog os laidL) #[.agg #[.slice none 0 0, .int .i64 0, .int .i64 0, .int .i64 0, .int .i64 0, .int .i64 0, .int .i64 0, .int .i64 0, .int .i64 0, .slice none 0 0], .agg #[.slice none 0 0, .slice none 0 0], .int .i64 0] 8 (World.laidAll_os _ _ _)
      (World.shaped_of_ZipB (by kernel_rfl) (by kernel_rfl)) (by kernel_rfl) (by kernel_rfl) (by kernel_rfl)
      (by rw [MakeChecks.laidMetH_plain _ _ _ (by kernel_rfl)]; exact laidMet_laidAll _ (by kernel_rfl) (by kernel_rfl))) ?_
  intro W base args ds gs before hval hW _ _ hL _
  exact lawHolds Tryz.func20 (by kernel_rfl) rfl (fun ds hd => by
    match ds, hd with
    | [d1, d2, d3], _ => rfl) (by rw [Tryz.params20]; intro t ht; simp at ht; rcases ht with rfl | rfl | rfl <;> kernel_rfl) (by rw [Tryz.params20]; intro t ht; simp at ht; rcases ht with rfl | rfl | rfl <;> exact ⟨by kernel_rfl, of_decide_eq_true (by kernel_rfl)⟩)
    (fun hT avs h => law20 hT avs h) W base args ds gs before hval hW hL
theorem in20 : (Rows.drillTrueRow.inPlace == Tryz.prog.inPlace 20) = true := by kernel_rfl
theorem unf20 : (Rows.drillTrueRow.unfollowed == Tryz.prog.unfollowed 20) = true := by kernel_rfl
theorem rec20 : (Rows.drillTrueRow.recurses == Tryz.prog.recurses 20) = true := by kernel_rfl
theorem nam20 : (Rows.drillTrueRow.named == Tryz.prog.varsNamed 20) = true := by kernel_rfl
theorem closed20 : joinedFacts Tryz.prog 20 Tryz.f20 Rows.drillTrueSpec Rows.drillTrueRow = true := by
  unfold joinedFacts
  rw [enter_ok, lifts_ok, make_ok]
  repeat' (with_reducible apply and_mk)
  all_goals (first | with_reducible exact laidOut | with_reducible exact rowed | with_reducible exact in20 | with_reducible exact unf20 | with_reducible exact rec20 | with_reducible exact nam20 | kernel_rfl)
theorem drillTrue_holds : Rows.DrillTrueSaid :=
  OpenClaim.holds_of_wide 20 Tryz.f20 rfl rfl rfl rfl rfl rfl rfl ⟨rfl, rfl, rfl, rfl, rfl⟩ rfl rfl rfl rfl rfl (by kernel_rfl) Tryz.func20 closed20
    (of_decide_eq_true (by kernel_rfl)) (by unfold Func.isWrapper; rw [if_neg (of_decide_eq_false (by kernel_rfl))]; exact ⟨rfl, rfl⟩)
    (fun os started H enc _ => drillTrue_lifted os started H enc)
theorem goes20 : false = Rows.drillTrueRow.goesBy Tryz.prog := by kernel_rfl
theorem drillTrue_card : Rows.DrillTrueCardSaid :=
  Claim7.holds_tied_plain_at .later [] [.data, .data, .data] true (true, "b61a08fa8ce36e10ae208529fc07d9da226449fa0c1a03ee5c8317728ea357ba") true drillTrue_holds (fun _ h => by cases h) (by kernel_rfl) (fun _ h => by cases h) drillTrue_row_tie rfl ⟨rfl, rfl⟩ main_ok rfl
    (fun f fn hf hfn => by
      obtain rfl : f = 20 := Option.some.inj ((show Tryz.prog.funcNamed "nacre/nacrelaw02.DrillTrue" = some 20 by kernel_rfl).symm.trans hf) |>.symm
      obtain rfl : fn = Tryz.f20 := (Option.some.inj (Tryz.func20.symm.trans hfn)).symm
      exact ⟨looks_ok, fun j t ht => by
        rw [Tryz.params20] at ht
        have hm : t ∈ [51, 109, 3] := by simpa using Array.mem_of_getElem? ht
        have hall : ([51, 109, 3].all fun u => !Tryz.prog.wantsStandIn u) = true := by kernel_rfl
        exact (show Tryz.prog.wantsStandIn t = false by simpa using List.all_eq_true.1 hall t hm)⟩)
    goes20
end Go.Proofs.YtlhcjccaimmhgaaGreatDoor
