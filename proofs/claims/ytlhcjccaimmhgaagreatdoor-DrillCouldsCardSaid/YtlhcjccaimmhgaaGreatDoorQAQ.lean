/-
  Texts of the proof: an evaluator of the program's code, its soundness, contracts of functions.
-/
import Derived.Test.YtlhcjccaimmhgaaGreatDoorQAP
import Derived.Test.YtlhcjccaimmhgaaGreatDoorQAM
import Derived.Test.YtlhcjccaimmhgaaGreatDoorQAK
import Derived.Test.YtlhcjccaimmhgaaGreatDoorQAF
import Derived.Test.YtlhcjccaimmhgaaGreatDoorQAO
import Derived.Test.YtlhcjccaimmhgaaGreatDoorQAG
set_option linter.unusedSimpArgs false
set_option linter.unusedVariables false
set_option linter.unusedSectionVars false
namespace Go.AM
open Go
variable [Keep]
theorem interW {x : Sp} (h1 : -1000 ≤ x.lo) (h2 : x.hi ≤ 1000) : interS wideS x = x :=
  Sp.ext2 (by rw [interS_lo]; simp only [wideS]; omega) (by rw [interS_hi]; simp only [wideS]; omega)
def limOf (sel : Held → Sp) (m : Held) : Lim := ⟨m.b, (sel m).lo, (sel m).hi⟩
theorem own_get (sel : Held → Sp) (k : Nat) : ∀ (ms : List Held) (o : List Sp), k < o.length → (∀ m ∈ ms, 0 ≤ m.b) → (ownS sel ms o).getD k ⟨0, 0⟩ = allS k (ms.map (limOf sel)) (o.getD k ⟨0, 0⟩) := by
  intro ms
  induction ms with
  | nil => intro o _ _; rfl
  | cons m r ih =>
    intro o hk hb
    have hm := hb m (by simp)
    simp only [ownS, List.map_cons, allS]
    rw [ih _ (by simpa using hk) (fun m' h' => hb m' (by simp [h']))]
    by_cases e : m.b = (k : Int)
    · have hn : m.b.toNat = k := by omega
      have h1 : ((limOf sel m).b == (k : Int)) = true := by simp [limOf, e]
      rw [if_pos h1, hn]
      rw [getD_set_same hk]
      rfl
    · have hn : m.b.toNat ≠ k := by omega
      have h1 : ¬ ((limOf sel m).b == (k : Int)) = true := by simp [limOf, e]
      rw [if_neg h1]
      rw [getD_set_ne hn]
theorem onR_lim (c w : Sp) (L : List Lim) (l : List Sp) : ∀ n, onR ⟨c, w, []⟩ n l = onR ⟨c, w, L⟩ n l := by
  intro n
  induction n with
  | zero => rfl
  | succ n ih =>
    simp only [onR]
    rw [ih]
    rfl
theorem backS_lim (c w : Sp) (L : List Lim) : ∀ n (l : List Sp), backS ⟨c, w, []⟩ n l = backS ⟨c, w, L⟩ n l := by
  intro n
  induction n with
  | zero => intro l; rfl
  | succ n ih =>
    intro l
    simp only [backS]
    rw [ih]
    rfl
theorem on_own (ax : Ax) (own : List Sp) (h13 : own.length = 13) (hown : ∀ k, k < 13 → own.getD k ⟨0, 0⟩ = allS k ax.limits wideS) (hc : -1000 ≤ ax.chuck.lo ∧ ax.chuck.hi ≤ 1000)
    (hn : ∀ k, k < 12 → -1000 ≤ (nxtS ax (onS ax k)).lo ∧ (nxtS ax (onS ax k)).hi ≤ 1000) : ∀ n, n ≤ 12 → (∀ j, j ≤ n → (onR ax n own).getD j ⟨0, 0⟩ = onS ax j) ∧ (∀ j, n < j → (onR ax n own).getD j ⟨0, 0⟩ = own.getD j ⟨0, 0⟩) := by
  intro n
  induction n with
  | zero =>
    intro _
    refine ⟨fun j hj => ?_, fun j hj => ?_⟩
    · have : j = 0 := by omega
      subst this
      simp only [onR]
      rw [getD_set_same (by omega), hown 0 (by omega), allS_inter, interW hc.1 hc.2]
      rfl
    · simp only [onR]
      rw [getD_set_ne (by omega)]
  | succ n ih =>
    intro hn12
    obtain ⟨h1, h2⟩ := ih (by omega)
    refine ⟨fun j hj => ?_, fun j hj => ?_⟩
    · by_cases e : j = n + 1
      · subst e
        have hl : (onR ax n own).length = 13 := by rw [onR_len, h13]
        have : (onR ax (n + 1) own).getD (n + 1) ⟨0, 0⟩ = interS ((onR ax n own).getD (n + 1) ⟨0, 0⟩) (nxtS ax ((onR ax n own).getD n ⟨0, 0⟩)) := by
          simp only [onR]
          rw [getD_set_same (by omega)]
        rw [this, h2 (n + 1) (by omega), h1 n (Nat.le_refl _), hown (n + 1) (by omega), allS_inter]
        obtain ⟨b1, b2⟩ := hn n (by omega)
        rw [interW b1 b2]
        rfl
      · have : (onR ax (n + 1) own).getD j ⟨0, 0⟩ = (onR ax n own).getD j ⟨0, 0⟩ := by
          simp only [onR]
          rw [getD_set_ne (fun e' => e e'.symm)]
        rw [this, h1 j (by omega)]
    · have : (onR ax (n + 1) own).getD j ⟨0, 0⟩ = (onR ax n own).getD j ⟨0, 0⟩ := by
        simp only [onR]
        rw [getD_set_ne (by omega)]
      rw [this, h2 j (by omega)]
def axO : Option (List Sp) → AV
  | none => .tuple [.nilslice, .bool false]
  | some t => .tuple [slN (t.map spC.enc), .bool true]
structure Good (c w : Sp) (L : List Lim) : Prop where
  c1 : -12 ≤ c.lo
  c2 : c.lo ≤ c.hi
  c3 : c.hi ≤ 12
  w1 : -3 ≤ w.lo
  w2 : w.lo ≤ w.hi
  w3 : w.hi ≤ 3
  l : ∀ m ∈ L, -104 ≤ m.lo ∧ m.lo ≤ 104 ∧ -104 ≤ m.hi ∧ m.hi ≤ 104
theorem allS_bd (b A B : Int) (hB : 104 ≤ B) (hA : A ≤ 104) : ∀ (L : List Lim) (s : Sp), (∀ m ∈ L, -104 ≤ m.lo ∧ m.lo ≤ 104 ∧ -104 ≤ m.hi ∧ m.hi ≤ 104) → A ≤ s.lo ∧ s.lo ≤ B ∧ -B ≤ s.hi ∧ s.hi ≤ -A →
    A ≤ (allS b L s).lo ∧ (allS b L s).lo ≤ B ∧ -B ≤ (allS b L s).hi ∧ (allS b L s).hi ≤ -A := by
  intro L
  induction L with
  | nil => intro s _ h; exact h
  | cons m r ih =>
    intro s hL h
    simp only [allS]
    split
    · refine ih _ (fun m' h' => hL m' (by simp [h'])) ?_
      have := hL m (by simp)
      simp only [interS_lo, interS_hi, Lim.sp]
      omega
    · exact ih _ (fun m' h' => hL m' (by simp [h'])) h
theorem nxt_small {c w : Sp} {L : List Lim} (g : Good c w L) {s : Sp} {A B : Int} (hA : -1000 ≤ A) (hB : B ≤ 1000) (h : A ≤ s.lo ∧ s.lo ≤ B ∧ -B ≤ s.hi ∧ s.hi ≤ -A) :
    (nxtS ⟨c, w, L⟩ s).lo = s.lo + w.lo ∧ (nxtS ⟨c, w, L⟩ s).hi = s.hi + w.hi := by
  have g1 := g.w1
  have g2 := g.w2
  have g3 := g.w3
  show w64 (s.lo + w.lo) = _ ∧ w64 (s.hi + w.hi) = _
  exact ⟨wrap_small (by omega) (by omega), wrap_small (by omega) (by omega)⟩
theorem on_bd {c w : Sp} {L : List Lim} (g : Good c w L) : ∀ k : Nat, k ≤ 13 → -12 - 3 * (k : Int) ≤ (onS ⟨c, w, L⟩ k).lo ∧ (onS ⟨c, w, L⟩ k).lo ≤ 104 + 3 * (k : Int) ∧ -(104 + 3 * (k : Int)) ≤ (onS ⟨c, w, L⟩ k).hi ∧ (onS ⟨c, w, L⟩ k).hi ≤ -(-12 - 3 * (k : Int)) := by
  intro k
  induction k with
  | zero =>
    intro _
    have := g.c1
    have := g.c2
    have := g.c3
    exact allS_bd _ _ _ (by omega) (by omega) L c g.l (by omega)
  | succ k ih =>
    intro hk
    have h := ih (by omega)
    obtain ⟨e1, e2⟩ := nxt_small g (by omega) (by omega) h
    have := g.w1
    have := g.w2
    have := g.w3
    refine allS_bd _ _ _ (by omega) (by omega) L (nxtS ⟨c, w, L⟩ (onS ⟨c, w, L⟩ k)) g.l ?_
    rw [e1, e2]
    omega
theorem axis_ref {c w : Sp} {L : List Lim} (g : Good c w L) (own : List Sp) (h13 : own.length = 13) (hown : ∀ k, k < 13 → own.getD k ⟨0, 0⟩ = allS k L wideS) : axisV ⟨c, w, []⟩ own = axO (boundsS ⟨c, w, L⟩) := by
  have hc1 := g.c1
  have hc2 := g.c2
  have hc3 := g.c3
  have hw2 := g.w2
  have hw1 := g.w1
  have hw3 := g.w3
  have hnx : ∀ k : Nat, k < 12 → (nxtS ⟨c, w, L⟩ (onS ⟨c, w, L⟩ k)).lo = (onS ⟨c, w, L⟩ k).lo + w.lo ∧ (nxtS ⟨c, w, L⟩ (onS ⟨c, w, L⟩ k)).hi = (onS ⟨c, w, L⟩ k).hi + w.hi :=
    fun k hk => nxt_small g (by omega) (by omega) (on_bd g k (by omega))
  have hb := bounds_ref ⟨c, w, L⟩ (by simp [empS]; omega) (fun k hk he => by
    obtain ⟨e1, e2⟩ := hnx k hk
    simp only [empS, decide_eq_false_iff_not] at *
    rw [e1, e2]
    omega)
  obtain ⟨o1, _⟩ := on_own ⟨c, w, L⟩ own h13 hown (show -1000 ≤ c.lo ∧ c.hi ≤ 1000 by omega) (fun k hk => by
    obtain ⟨e1, e2⟩ := hnx k hk
    have := on_bd g k (by omega)
    rw [e1, e2]
    omega) 12 (Nat.le_refl _)
  have hlist : onR ⟨c, w, L⟩ 12 own = (List.range 13).map (onS ⟨c, w, L⟩) := by
    apply List.ext_getElem
    · rw [onR_len, h13]; simp
    · intro j h1 h2
      have hj : j < 13 := by simpa using h2
      have := o1 j (by omega)
      simp only [List.getD, List.getElem?_eq_getElem h1, Option.getD_some] at this
      rw [this]
      simp
  rw [hb]
  unfold axisV refS lookS
  rw [onR_lim c w L, backS_lim c w L, hlist]
  split <;> rfl
theorem lims_155 (rs : List Rdg) : (marksOf rs).map (limOf (·.x)) = lims155 rs := by simp [marksOf, lims155, limOf]
theorem lims_156 (rs : List Rdg) : (marksOf rs).map (limOf (·.y)) = lims156 rs := by simp [marksOf, lims156, limOf]
theorem span_of {lo hi a b wide : Int} (h : spanB lo hi a b wide = true) : a ≤ lo ∧ lo ≤ hi ∧ hi ≤ b := by
  simp only [spanB, Bool.and_eq_true, decide_eq_true_eq] at h
  omega
theorem rdg_of {p : Rdg} (h : okRdg p = true) : 0 ≤ p.b ∧ p.b ≤ 12 ∧ -80 ≤ p.x ∧ p.x ≤ 80 ∧ -80 ≤ p.y ∧ p.y ≤ 80 ∧ 0 ≤ p.err ∧ p.err ≤ 4 := by
  have e : w64 (-80) = -80 := rfl
  simp only [okRdg, okPt, inB, e, Bool.and_eq_true, decide_eq_true_eq] at h
  omega
theorem init_get {k : Nat} (hk : k < 13) : initS.getD k ⟨0, 0⟩ = wideS := by
  unfold initS
  rw [List.getD, List.getElem?_replicate, if_pos hk]
  rfl
section
variable {st : List Pt} {cx cy wx wy : Sp} {rs : List Rdg} (h : machB st cx cy wx wy rs = true)
include h
theorem mach_rdg : ∀ p ∈ rs, okRdg p = true := by
  intro p hp
  simp only [machB, Bool.and_eq_true] at h
  have := h.2
  simp only [Bool.not_eq_true'] at this
  have := List.any_eq_false.1 this p hp
  simpa using this
theorem good_x : Good cx wx (lims155 rs) := by
  have e1 : w64 (-12) = -12 := rfl
  have e2 : w64 (-3) = -3 := rfl
  have hr := mach_rdg h
  simp only [machB, Bool.and_eq_true, e1, e2] at h
  have h1 := span_of h.1.1.1.1.1.2
  have h2 := span_of h.1.1.1.2
  refine ⟨h1.1, h1.2.1, h1.2.2, h2.1, h2.2.1, h2.2.2, fun m hm => ?_⟩
  obtain ⟨p, hp, rfl⟩ := List.mem_map.1 hm
  have := rdg_of (hr p hp)
  have a1 : w64 (p.x - p.err) = p.x - p.err := wrap_small (by omega) (by omega)
  have a2 : w64 (p.x + p.err) = p.x + p.err := wrap_small (by omega) (by omega)
  simp only [a1, a2]
  omega
theorem good_y : Good cy wy (lims156 rs) := by
  have e1 : w64 (-12) = -12 := rfl
  have e2 : w64 (-3) = -3 := rfl
  have hr := mach_rdg h
  simp only [machB, Bool.and_eq_true, e1, e2] at h
  have h1 := span_of h.1.1.1.1.2
  have h2 := span_of h.1.1.2
  refine ⟨h1.1, h1.2.1, h1.2.2, h2.1, h2.2.1, h2.2.2, fun m hm => ?_⟩
  obtain ⟨p, hp, rfl⟩ := List.mem_map.1 hm
  have := rdg_of (hr p hp)
  have a1 : w64 (p.y - p.err) = p.y - p.err := wrap_small (by omega) (by omega)
  have a2 : w64 (p.y + p.err) = p.y + p.err := wrap_small (by omega) (by omega)
  simp only [a1, a2]
  omega
theorem marks_blk : (marksOf rs).all blkB = true := by
  refine List.all_eq_true.2 fun m hm => ?_
  obtain ⟨p, hp, rfl⟩ := List.mem_map.1 hm
  have := rdg_of (mach_rdg h p hp)
  simp [blkB, inB]
  omega
theorem marks_pos : ∀ m ∈ marksOf rs, 0 ≤ m.b := by
  intro m hm
  obtain ⟨p, hp, rfl⟩ := List.mem_map.1 hm
  exact (rdg_of (mach_rdg h p hp)).1
theorem axisX : axisV ⟨cx, wx, []⟩ (ownS (·.x) (marksOf rs) initS) = axO (boundsS (ax0 cx wx rs [])) := by
  have : ax0 cx wx rs [] = ⟨cx, wx, lims155 rs⟩ := by simp [ax0]
  rw [this]
  refine axis_ref (good_x h) _ (by rw [ownS_len]; rfl) (fun k hk => ?_)
  rw [own_get _ k _ _ (by exact hk) (marks_pos h), lims_155]
  rw [init_get hk]
theorem axisY : axisV ⟨cy, wy, []⟩ (ownS (·.y) (marksOf rs) initS) = axO (boundsS (ax1 cy wy rs [])) := by
  have : ax1 cy wy rs [] = ⟨cy, wy, lims156 rs⟩ := by simp [ax1]
  rw [this]
  refine axis_ref (good_y h) _ (by rw [ownS_len]; rfl) (fun k hk => ?_)
  rw [own_get _ k _ _ (by exact hk) (marks_pos h), lims_156]
  rw [init_get hk]
end
end Go.AM
set_option linter.unusedSectionVars false
set_option linter.unusedVariables false
set_option linter.unusedSimpArgs false
set_option maxRecDepth 100000
namespace Go.AM
open Go Go.Proofs
variable [Keep]
attribute [local irreducible] W WO WO1 WD WQ WT thenQ blockQ endR isRet retK Cl ClR
attribute [local irreducible] axisV bothV boundsS machB
theorem K105 {X : Ctx} (hX : X.intr 105 = some (pureFn sp105)) (sa ra ma : AV) (st : List Pt) (rs : List Rdg) (ms : List Held) (cx cy wx wy : Sp) (hl : slV ptC sa = some st) (hr : slV rdgC ra = some rs) (hm : slV heldC ma = some ms) (hb : ms.all blkB = true) (h : Heap) :
    Cl X 105 [.agg [sa, .int .i64 cx.lo, .int .i64 cx.hi, .int .i64 cy.lo, .int .i64 cy.hi, .int .i64 wx.lo, .int .i64 wx.hi, .int .i64 wy.lo, .int .i64 wy.hi, ra], ma] h (.ret (bothV cx cy wx wy ms) h none) :=
  Cl.intr hX (by simp [pureFn, AV.pur, AV.purL, sl_pur hl, sl_pur hr, sl_pur hm, sp105, hl, hr, hm, hb])
theorem axO_is (o : Option (List Sp)) : ∃ x, axO o = .tuple [x, .bool o.isSome] ∧ outV (some x) = some x ∧ isTuple x = false ∧ ∀ t, o = some t → t.length = 13 → x = .vslice (t.map spC.enc) := by
  cases o with
  | none => exact ⟨_, rfl, rfl, rfl, fun t h => by cases h⟩
  | some t =>
    refine ⟨_, rfl, (slN_is _).out, (slN_is _).tup, fun t' h h13 => ?_⟩
    cases h
    cases t with
    | nil => simp at h13
    | cons a r => rfl
theorem bothV_mach {st : List Pt} {cx cy wx wy : Sp} {rs : List Rdg} (h : machB st cx cy wx wy rs = true) : ∃ x y, bothV cx cy wx wy (marksOf rs) = .tuple [x, y, .bool ((boundsS (ax0 cx wx rs [])).isSome && (boundsS (ax1 cy wy rs [])).isSome)] ∧
    outV (some x) = some x ∧ outV (some y) = some y ∧ isTuple x = false ∧ isTuple y = false ∧ (∀ t, boundsS (ax0 cx wx rs []) = some t → x = .vslice (t.map spC.enc)) ∧ (∀ t, boundsS (ax1 cy wy rs []) = some t → y = .vslice (t.map spC.enc)) := by
  obtain ⟨x, e1, e2, e3, e4⟩ := axO_is (boundsS (ax0 cx wx rs []))
  obtain ⟨y, f1, f2, f3, f4⟩ := axO_is (boundsS (ax1 cy wy rs []))
  refine ⟨x, y, ?_, e2, f2, e3, f3, fun t ht => e4 t ht (boundsS_len ht), fun t ht => f4 t ht (boundsS_len ht)⟩
  unfold bothV
  rw [axisX h, axisY h, e1, f1]
  rfl
noncomputable def cP1 : FuncId → Option (List AV → Heap → Option (AV × Heap))
  | 105 => some (pureFn sp105)
  | 106 => some (pureFn sp106)
  | _ => none
theorem cP1_sound : Sound (dX cP1) := dX_sound (fun f g h => by
  unfold cP1 at h
  split at h
  · cases h; exact F105
  · cases h; exact F106
  · cases h)
def sp104 : List AV → Option AV
  | [.agg [sa, .int .i64 cxl, .int .i64 cxh, .int .i64 cyl, .int .i64 cyh, .int .i64 wxl, .int .i64 wxh, .int .i64 wyl, .int .i64 wyh, ra]] => match slV ptC sa, slV rdgC ra with
    | some st, some rs => if machB st ⟨cxl, cxh⟩ ⟨cyl, cyh⟩ ⟨wxl, wxh⟩ ⟨wyl, wyh⟩ rs = true then some (.bool ((boundsS (ax0 ⟨cxl, cxh⟩ ⟨wxl, wxh⟩ rs [])).isSome && (boundsS (ax1 ⟨cyl, cyh⟩ ⟨wyl, wyh⟩ rs [])).isSome)) else none
    | _, _ => none
  | _ => none
theorem p104 : ∀ args v, sp104 args = some v → v.pur = true := by
  intro args v h
  unfold sp104 at h
  split at h
  · split at h
    · split at h
      · cases h; rfl
      · cases h
    · cases h
  · cases h
theorem slH_marks {rs : List Rdg} {ra : AV} (hr : slV rdgC ra = some rs) : slV heldC (slN ((marksOf rs).map heldC.enc)) = some (marksOf rs) := slV_slN (by simpa [marksOf] using sl_max hr)
set_option maxHeartbeats 1000000 in
theorem F104 : IntrFn Tryz.prog 104 (pureFn sp104) := by
  refine pure_fn (X := dX cP1) cP1_sound p104 ?_
  intro args v h
  unfold sp104 at h
  split at h
  · rename_i sa cxl cxh cyl cyh wxl wxh wyl wyh ra
    split at h
    · rename_i st rs hl hr
      split at h
      · rename_i hok
        cases h
        obtain ⟨x, y, hv, hox, hoy, htx, hty, _, _⟩ := bothV_mach hok
        have hout := sl_out hr
        have hout2 := sl_out hl
        have h106 := fun hp => K106 (X := dX cP1) rfl sa ra st rs ⟨cxl, cxh⟩ ⟨cyl, cyh⟩ ⟨wxl, wxh⟩ ⟨wyl, wyh⟩ hl hr hp
        have hb := fun hp => K105 (X := dX cP1) rfl sa ra _ st rs _ ⟨cxl, cxh⟩ ⟨cyl, cyh⟩ ⟨wxl, wxh⟩ ⟨wyl, wyh⟩ hl hr (slH_marks hr) (marks_blk hok) hp
        rw [hv] at hb
        have hso := (slN_is ((marksOf rs).map heldC.enc)).out
        have hst := (slN_is ((marksOf rs).map heldC.enc)).tup
        generalize slN ((marksOf rs).map heldC.enc) = ma at *
        generalize ((boundsS (ax0 ⟨cxl, cxh⟩ ⟨wxl, wxh⟩ rs [])).isSome && (boundsS (ax1 ⟨cyl, cyh⟩ ⟨wyl, wyh⟩ rs [])).isSome) = b at *
        have H106 := Lib.hid h106
        have HB := Lib.hid hb
        clear h106 hb hv hl hr hok
        refine ClR.walk (c := _) rfl Tryz.func104 rfl (by kernel_rfl) rfl isRet_fail ?_
        simp only [entryEnv, Nat.reduceAdd]
        repeat' (first | (apply W.drawQ (id := 1) (l1 := [0, 1, 2, 3, 4, 5, 6, 7, 8, 9, 10]) (l2 := []); kernel_rfl; kernel_rfl; kernel_rfl; exact Z4) | refine go1 ?_ | (apply U6; exact Z1; exact Z1; (focus (simp only [List.nil_append, List.append_nil]; first | exact HB.out _ | exact H106.out _)); simp only [pM, pN, rR, rP]) | refine go2 (fun hh => ?_) (fun hh => ?_) | fail)
        all_goals simp only [resV_def (X := dX cP1) Tryz.func104, Tryz.results104, resultsV, resultV, go_sem, *, Nat.reduceLT, Int.reduceEq, Int.reduceBEq, Int.reduceLE, Int.reduceLT, Nat.reduceAdd, Nat.reduceBEq, Nat.reduceEqDiff, reduceIte, Nat.reduceLeDiff, Nat.reduceMul, Nat.reduceSub, reduceCtorEq, frzRes, dFrz, frzCells, isRet_ret, tupleOf]
      · cases h
    · cases h
  · cases h
theorem K104 {X : Ctx} (hX : X.intr 104 = some (pureFn sp104)) (sa ra : AV) (st : List Pt) (rs : List Rdg) (cx cy wx wy : Sp) (hl : slV ptC sa = some st) (hr : slV rdgC ra = some rs) (hok : machB st cx cy wx wy rs = true) (h : Heap) :
    Cl X 104 [.agg [sa, .int .i64 cx.lo, .int .i64 cx.hi, .int .i64 cy.lo, .int .i64 cy.hi, .int .i64 wx.lo, .int .i64 wx.hi, .int .i64 wy.lo, .int .i64 wy.hi, ra]] h (.ret (.bool ((boundsS (ax0 cx wx rs [])).isSome && (boundsS (ax1 cy wy rs [])).isSome)) h none) :=
  Cl.intr hX (by simp [pureFn, AV.pur, AV.purL, sl_pur hl, sl_pur hr, sp104, hl, hr, hok])
def ableI (ok : Bool) (p : Bool) : Int := if ok then (if p then 0 else 7) else 2
def sp40 : List AV → Option AV
  | [.agg [sa, .int .i64 cxl, .int .i64 cxh, .int .i64 cyl, .int .i64 cyh, .int .i64 wxl, .int .i64 wxh, .int .i64 wyl, .int .i64 wyh, ra]] => match slV ptC sa, slV rdgC ra with
    | some st, some rs => some (.int .i64 (ableI (machB st ⟨cxl, cxh⟩ ⟨cyl, cyh⟩ ⟨wxl, wxh⟩ ⟨wyl, wyh⟩ rs) ((boundsS (ax0 ⟨cxl, cxh⟩ ⟨wxl, wxh⟩ rs [])).isSome && (boundsS (ax1 ⟨cyl, cyh⟩ ⟨wyl, wyh⟩ rs [])).isSome)))
    | _, _ => none
  | _ => none
noncomputable def cP2 : FuncId → Option (List AV → Heap → Option (AV × Heap))
  | 71 => some (flatFn sp71)
  | 104 => some (pureFn sp104)
  | _ => none
theorem cP2_sound : Sound (dX cP2) := dX_sound (fun f g h => by
  unfold cP2 at h
  split at h
  · cases h; exact F71
  · cases h; exact F104
  · cases h)
set_option maxHeartbeats 1000000 in
theorem F40 : IntrFn Tryz.prog 40 (pureFn sp40) := by
  refine pure_fn (X := dX cP2) cP2_sound (fun a v h => by
    unfold sp40 at h
    split at h
    · split at h
      · cases h; rfl
      · cases h
    · cases h) ?_
  intro args v h
  unfold sp40 at h
  split at h
  · rename_i sa cxl cxh cyl cyh wxl wxh wyl wyh ra
    split at h
    · rename_i st rs hl hr
      cases h
      have hout := sl_out hr
      have hout2 := sl_out hl
      have hm := fun hp => K71 (X := dX cP2) rfl sa ra st rs ⟨cxl, cxh⟩ ⟨cyl, cyh⟩ ⟨wxl, wxh⟩ ⟨wyl, wyh⟩ hl hr hp
      rw [machR_B] at hm
      have hp : machB st ⟨cxl, cxh⟩ ⟨cyl, cyh⟩ ⟨wxl, wxh⟩ ⟨wyl, wyh⟩ rs = true → ∀ hp, _ := fun hok hp => K104 (X := dX cP2) rfl sa ra st rs ⟨cxl, cxh⟩ ⟨cyl, cyh⟩ ⟨wxl, wxh⟩ ⟨wyl, wyh⟩ hl hr hok hp
      generalize ((boundsS (ax0 ⟨cxl, cxh⟩ ⟨wxl, wxh⟩ rs [])).isSome && (boundsS (ax1 ⟨cyl, cyh⟩ ⟨wyl, wyh⟩ rs [])).isSome) = b at *
      have HM := Lib.hid hm
      clear hm hl hr
      cases hok : machB st ⟨cxl, cxh⟩ ⟨cyl, cyh⟩ ⟨wxl, wxh⟩ ⟨wyl, wyh⟩ rs with
      | false =>
        have hr : ableI false b = 2 := rfl
        rw [hr]
        clear hp hr
        refine ClR.walk (c := _) rfl Tryz.func40 rfl (by kernel_rfl) rfl isRet_fail ?_
        simp only [entryEnv, Nat.reduceAdd]
        repeat' (first | refine goS ?_ | (apply U6; exact Z1; exact Z1; (focus (simp only [List.nil_append, List.append_nil]; first | exact HM.out _)); simp only [pM, pN, rR, rP]) | refine go2 (fun hh => ?_) (fun hh => ?_) | fail)
        all_goals simp only [resV_def (X := dX cP2) Tryz.func40, Tryz.results40, resultsV, resultV, go_sem, *, Nat.reduceLT, Int.reduceEq, Int.reduceBEq, Int.reduceLE, Int.reduceLT, Nat.reduceAdd, Nat.reduceBEq, Nat.reduceEqDiff, reduceIte, Nat.reduceLeDiff, Nat.reduceMul, Nat.reduceSub, reduceCtorEq, frzRes, dFrz, frzCells, isRet_ret, tupleOf]
      | true =>
        have hp := hp hok
        have HP := Lib.hid hp
        clear hp
        refine ClR.walk (c := _) rfl Tryz.func40 rfl (by kernel_rfl) rfl isRet_fail ?_
        simp only [entryEnv, Nat.reduceAdd]
        repeat' (first | refine goS ?_ | (apply U6; exact Z1; exact Z1; (focus (simp only [List.nil_append, List.append_nil]; first | exact HM.out _ | exact HP.out _)); simp only [pM, pN, rR, rP]) | refine go2 (fun hh => ?_) (fun hh => ?_) | fail)
        all_goals simp only [resV_def (X := dX cP2) Tryz.func40, Tryz.results40, resultsV, resultV, go_sem, *, Nat.reduceLT, Int.reduceEq, Int.reduceBEq, Int.reduceLE, Int.reduceLT, Nat.reduceAdd, Nat.reduceBEq, Nat.reduceEqDiff, reduceIte, Nat.reduceLeDiff, Nat.reduceMul, Nat.reduceSub, reduceCtorEq, frzRes, dFrz, frzCells, isRet_ret, tupleOf]
        all_goals (simp only [Bool.not_eq_true', Bool.not_eq_false'] at hh; simp [ableI, hh])
    · cases h
  · cases h
def slLen : AV → Option Nat
  | .nilslice => some 0
  | .vempty => some 0
  | .vslice l => some l.length
  | _ => none
theorem slLen_is {a : AV} {n : Nat} (h : slLen a = some n) : lenS a = some n ∧ outV (some a) = some a ∧ isTuple a = false := by
  unfold slLen at h
  split at h <;> first | (cases h; exact ⟨rfl, rfl, rfl⟩) | cases h
def sp38 : List AV → Option AV
  | [.agg [sa, .int .i64 cxl, .int .i64 cxh, .int .i64 cyl, .int .i64 cyh, .int .i64 wxl, .int .i64 wxh, .int .i64 wyl, .int .i64 wyh, ra]] => match slLen sa, slLen ra with
    | some m, some n => some (.bool (decide ((m : Int) ≤ 6) && decide ((n : Int) ≤ 6)))
    | _, _ => none
  | _ => none
theorem F38 : IntrFn Tryz.prog 38 (pureFn sp38) := by
  refine pure_fn (X := dX cP2) cP2_sound (fun a v h => by
    unfold sp38 at h
    split at h
    · split at h
      · cases h; rfl
      · cases h
    · cases h) ?_
  intro args v h
  unfold sp38 at h
  split at h
  · rename_i sa cxl cxh cyl cyh wxl wxh wyl wyh ra
    split at h
    · rename_i m n hl hr
      cases h
      obtain ⟨h1, h2, h3⟩ := slLen_is hl
      obtain ⟨g1, g2, g3⟩ := slLen_is hr
      clear hl hr
      refine ClR.walk (c := _) rfl Tryz.func38 rfl (by kernel_rfl) rfl isRet_fail ?_
      simp only [entryEnv, Nat.reduceAdd]
      repeat' (first | refine goS ?_ | refine go2 (fun hh => ?_) (fun hh => ?_) | fail)
      all_goals simp only [resV_def (X := dX cP2) Tryz.func38, Tryz.results38, resultsV, resultV, go_sem, *, Nat.reduceLT, Int.reduceEq, Int.reduceBEq, Int.reduceLE, Int.reduceLT, Nat.reduceAdd, Nat.reduceBEq, Nat.reduceEqDiff, reduceIte, Nat.reduceLeDiff, Nat.reduceMul, Nat.reduceSub, reduceCtorEq, frzRes, dFrz, frzCells, isRet_ret, tupleOf]
      all_goals simp [*]
    · cases h
  · cases h
end Go.AM
set_option linter.unusedSectionVars false
set_option linter.unusedVariables false
set_option linter.unusedSimpArgs false
set_option maxRecDepth 100000
namespace Go.AM
open Go Go.Proofs
variable [Keep]
attribute [local irreducible] W WO WO1 WD WQ WT thenQ blockQ endR isRet retK Cl ClR
def isFit (h : Heap) (b : Bool) (r : COut) : Prop := ∃ h', HExt h h' ∧ r = .ret (.bool b) h' none
attribute [local irreducible] isFit
theorem RdL.ext {h h' : Heap} {v : AV} {l : List Lim} (r : RdL h v l) (e : HExt h h') : RdL h' v l :=
  ⟨r.len, r.out, r.max, r.one, r.tup, fun k m hk hp hq => r.get k m hk hp (fun id hi => (hq id (Nat.lt_of_lt_of_le hi e.1)).trans (e.2 id hi))⟩
end Go.AM
set_option linter.unusedSectionVars false
set_option linter.unusedVariables false
set_option linter.unusedSimpArgs false
namespace Go.AM
open Go
variable [Keep]
def viewD (h : Heap) (a : AV) : Option AV :=
  match a with
  | .agg l => (viewVs h l).map AV.agg
  | a => viewV h a
def viewDs (h : Heap) : List AV → Option (List AV)
  | [] => some []
  | a :: r => match viewD h a, viewDs h r with
    | some x, some l => some (x :: l)
    | _, _ => none
theorem viewV_one {h : Heap} {a a' : AV} (e : viewV h a = some a') (ho : a.one = true) : a'.one = true := by
  unfold viewV at e
  split at e
  · split at e
    · split at e
      · split at e
        · cases e; rfl
        · cases e
      · cases e
    · cases e
  · split at e
    · cases e; exact ho
    · cases e
theorem viewVs_get {h : Heap} : ∀ {l l' : List AV}, viewVs h l = some l' → l'.length = l.length ∧ ∀ i, i < l.length → viewV h (l.getD i .junk) = some (l'.getD i .junk) := by
  intro l
  induction l with
  | nil => intro l' e; simp only [viewVs, Option.some.injEq] at e; subst e; exact ⟨rfl, fun i hi => by simp at hi⟩
  | cons a l ih =>
    intro l' e
    simp only [viewVs] at e
    split at e
    · rename_i x l1 hx hl
      cases e
      obtain ⟨h1, h2⟩ := ih hl
      refine ⟨by simp [h1], fun i hi => ?_⟩
      cases i with
      | zero => simpa using hx
      | succ i => simpa using h2 i (by simpa using hi)
    · cases e
theorem purL_of : ∀ {l : List AV}, (∀ a ∈ l, a.pur = true) → AV.purL l = true := by
  intro l
  induction l with
  | nil => intro _; rfl
  | cons a l ih =>
    intro h
    simp only [AV.purL, Bool.and_eq_true]
    exact ⟨h a (by simp), ih (fun b hb => h b (by simp [hb]))⟩
variable {C : Cfg} {h : Heap} {w : World}
theorem viewD_ok (r : WR C h w) {a a' : AV} {v : Value} (hv : VR C a v) (e : viewD h a = some a') : a'.pur = true ∧ VR ⟨fun _ => none, w.cell?⟩ a' v := by
  unfold viewD at e
  split at e
  · rename_i l
    simp only [Option.map_eq_some_iff] at e
    obtain ⟨l', e, rfl⟩ := e
    obtain ⟨e1, e2⟩ := viewVs_get e
    cases hv with
    | agg h1 h2 h3 =>
      have hk : ∀ i, i < l.length → (l'.getD i .junk).pur = true ∧ VR ⟨fun _ => none, w.cell?⟩ (l'.getD i .junk) _ := fun i hi => viewV_ok r (h2 i hi) (e2 i hi)
      refine ⟨?_, .agg (by omega) (fun i hi => (hk i (by omega)).2) (fun c hc => ?_)⟩
      · simp only [AV.pur]
        refine purL_of fun b hb => ?_
        obtain ⟨i, hi⟩ := List.mem_iff_getElem?.1 hb
        have hil : i < l.length := by
          rcases Nat.lt_or_ge i l.length with q | q
          · exact q
          · rw [List.getElem?_eq_none (by omega)] at hi; cases hi
        have := (hk i hil).1
        simpa [List.getD, hi] using this
      · obtain ⟨i, hi⟩ := List.mem_iff_getElem?.1 hc
        have hil : i < l.length := by
          rcases Nat.lt_or_ge i l.length with q | q
          · exact q
          · rw [List.getElem?_eq_none (by omega)] at hi; cases hi
        have h5 := e2 i hil
        have h6 : (l'.getD i .junk) = c := by simp [List.getD, hi]
        rw [h6] at h5
        refine viewV_one h5 (h3 _ ?_)
        have : l.getD i .junk = l[i] := by simp [List.getD, hil]
        rw [this]
        exact List.getElem_mem hil
  · exact viewV_ok r hv e
theorem viewDs_ok (r : WR C h w) : ∀ {l l' : List AV} {vs : Array Value}, VRs C l vs → viewDs h l = some l' → (∀ a ∈ l', a.pur = true) ∧ VRs ⟨fun _ => none, w.cell?⟩ l' vs := by
  intro l
  induction l with
  | nil =>
    intro l' vs hv e
    simp only [viewDs, Option.some.injEq] at e
    subst e
    exact ⟨by simp, hv.1, fun i hi => by simp at hi⟩
  | cons a l ih =>
    intro l' vs hv e
    simp only [viewDs] at e
    split at e
    · rename_i x l1 hx hl
      cases e
      have h0 : VR C a (vs.getD 0 undef) := by simpa using hv.2 0 (by simp)
      obtain ⟨p1, p2⟩ := viewD_ok r h0 hx
      have hsz : vs.size = l.length + 1 := by have := hv.1; simpa using this
      have ht : VRs C l (vs.extract 1 vs.size) := by
        refine ⟨by simp [hsz], fun i hi => ?_⟩
        have := hv.2 (i + 1) (by simp; omega)
        have e2 : (vs.extract 1 vs.size).getD i undef = vs.getD (i + 1) undef := by
          simp only [Array.getD_eq_getD_getElem?]
          rw [Array.getElem?_extract]
          have : i < vs.size - 1 := by omega
          simp [this, Nat.add_comm]
        rw [e2]
        simpa using this
      obtain ⟨q1, q2⟩ := ih ht hl
      refine ⟨by simpa [p1] using q1, ?_⟩
      have := VRs.cons p2 q2
      have e3 : #[vs.getD 0 undef] ++ vs.extract 1 vs.size = vs := by
        apply Array.ext_getElem?
        intro i
        cases i with
        | zero =>
          have : 0 < vs.size := by omega
          simp [Array.getElem?_append, Array.getD_eq_getD_getElem?, this]
        | succ i =>
          rw [Array.getElem?_append_right (by simp)]
          simp only [List.size_toArray, List.length_cons, List.length_nil, Nat.zero_add, Nat.add_sub_cancel, Array.getElem?_extract]
          by_cases hi : i < vs.size - 1
          · simp [hi, Nat.add_comm]
          · have : vs.size ≤ i + 1 := by omega
            simp [hi, this]
      rw [e3] at this
      exact this
    · cases e
end Go.AM
set_option linter.unusedSectionVars false
set_option linter.unusedVariables false
set_option linter.unusedSimpArgs false
namespace Go.AM
open Go
variable [Keep]
theorem Blt.view {h : Heap} {v : AV} {sz : Nat} {l : List AV} (b : Blt h v sz l) (hp : ∀ a ∈ l, a.pur = true) : viewV h v = some (slN l) := by
  rcases b with ⟨rfl, rfl⟩ | ⟨id, rfl, hg, h3, hne⟩
  · rfl
  · have h1 : AV.purL l = true := purL_of hp
    cases l with
    | nil => exact absurd rfl hne
    | cons x l => simp [viewV, hg, h1, slN]
structure Four (h : Heap) (a b c d : AV) (k l m n : List AV) : Prop where
  ba : Blt h a 1 k
  bb : Blt h b 1 l
  bc' : Blt h c 1 m
  bd' : Blt h d 1 n
  ab : Sep a b
  ac : Sep a c
  ad : Sep a d
  bc : Sep b c
  bd : Sep b d
  cd : Sep c d
section
variable {h h' : Heap} {a b c d v : AV} {k l m n r : List AV} {i : Nat}
theorem Four.nil : Four h .nilslice .nilslice .nilslice .nilslice [] [] [] [] := ⟨.nil, .nil, .nil, .nil, .nil _, .nil _, .nil _, .nil _, .nil _, .nil _⟩
theorem Four.one (q : Four h a b c d k l m n) (hb : Blt h' v 1 r) (hk : Keeps h h' a) (he : v = .row h.next 0 i) : Four h' v b c d r l m n := by
  subst he
  exact ⟨hb, q.bb.apart hk q.ab, q.bc'.apart hk q.ac, q.bd'.apart hk q.ad, .new q.bb (Nat.le_refl _) _, .new q.bc' (Nat.le_refl _) _, .new q.bd' (Nat.le_refl _) _, q.bc, q.bd, q.cd⟩
theorem Four.turn (q : Four h a b c d k l m n) : Four h b c d a l m n k := ⟨q.bb, q.bc', q.bd', q.ba, q.bc, q.bd, q.ab.symm, q.cd, q.ac.symm, q.ad.symm⟩
theorem Four.two (q : Four h a b c d k l m n) (hb : Blt h' v 1 r) (hk : Keeps h h' b) (he : v = .row h.next 0 i) : Four h' a v c d k r m n := (q.turn.one hb hk he).turn.turn.turn
end
end Go.AM
set_option linter.unusedSectionVars false
set_option linter.unusedVariables false
set_option linter.unusedSimpArgs false
set_option maxRecDepth 100000
namespace Go.AM
open Go Go.Proofs
variable [Keep]
attribute [local irreducible] W WO WO1 WD WQ WT thenQ blockQ endR isRet retK Cl ClR
attribute [local irreducible] roundQ RdR clR boundsS machB
def butB (hs : List Pt) (err : Int) : Bool := allB hs 2 80 && inB err 0 4
def sp162 : List AV → Option AV
  | [.agg [ha, .int .i64 err]] => (slV ptC ha).map fun hs => .bool (butB hs err)
  | _ => none
theorem p162 : ∀ args v, sp162 args = some v → v.pur = true := by
  intro args v h
  unfold sp162 at h
  split at h
  · simp only [Option.map_eq_some_iff] at h; obtain ⟨l, _, rfl⟩ := h; rfl
  · cases h
noncomputable def cHD : FuncId → Option (List AV → Heap → Option (AV × Heap))
  | 28 => some (flatFn sp28)
  | 93 => some (pureFn sp93)
  | 94 => some (flatFn sp94)
  | 97 => some (pureFn sp97)
  | _ => none
theorem cHD_sound : Sound (dX cHD) := dX_sound (fun f g h => by
  unfold cHD at h
  split at h
  · cases h; exact F28
  · cases h; exact F93
  · cases h; exact F94
  · cases h; exact F97
  · cases h)
theorem F162 : IntrFn Tryz.prog 162 (pureFn sp162) := by
  refine pure_fn (X := dX cHD) cHD_sound p162 ?_
  intro args v h
  unfold sp162 at h
  split at h
  · rename_i ha err
    simp only [Option.map_eq_some_iff] at h
    obtain ⟨hs, hl, rfl⟩ := h
    have hout := sl_out hl
    have htup := (slV_is hl).1.tup
    simp only [isTuple] at htup
    have k94 := fun h => K94 (X := dX cHD) rfl ha hs 2 80 hl h
    have HB := Lib.hid (show butB hs err = (allB hs 2 80 && inB err 0 4) from rfl)
    generalize butB hs err = b at *
    generalize allB hs 2 80 = a at *
    clear hl
    refine ClR.walk (c := _) rfl Tryz.func162 rfl (by kernel_rfl) rfl isRet_fail ?_
    simp only [entryEnv, Nat.reduceAdd]
    cases a with
    | false =>
      repeat' (first | refine goS ?_ | (apply U6; exact Z1; exact Z1; (focus (simp only [List.nil_append, List.append_nil]; first | exact K93 rfl _ _ _ _ | exact k94 _)); simp only [pM, pN, rR, rP]) | refine go2 (fun hh => ?_) (fun hh => ?_) | fail)
      all_goals simp only [resV_def (X := dX cHD) Tryz.func162, Tryz.results162, resultsV, resultV, go_sem, *, Nat.reduceLT, Int.reduceEq, Int.reduceBEq, Int.reduceLE, Int.reduceLT, Nat.reduceAdd, Nat.reduceBEq, Nat.reduceEqDiff, reduceIte, Nat.reduceLeDiff, Nat.reduceMul, Nat.reduceSub, reduceCtorEq, frzRes, dFrz, frzCells, isRet_ret, tupleOf]
      rw [HB.out]; rfl
    | true =>
      repeat' (first | refine goS ?_ | (apply U6; exact Z1; exact Z1; (focus (simp only [List.nil_append, List.append_nil]; first | exact K93 rfl _ _ _ _ | exact k94 _)); simp only [pM, pN, rR, rP]) | refine go2 (fun hh => ?_) (fun hh => ?_) | fail)
      all_goals simp only [resV_def (X := dX cHD) Tryz.func162, Tryz.results162, resultsV, resultV, go_sem, *, Nat.reduceLT, Int.reduceEq, Int.reduceBEq, Int.reduceLE, Int.reduceLT, Nat.reduceAdd, Nat.reduceBEq, Nat.reduceEqDiff, reduceIte, Nat.reduceLeDiff, Nat.reduceMul, Nat.reduceSub, reduceCtorEq, frzRes, dFrz, frzCells, isRet_ret, tupleOf]
      rw [HB.out]; simp
  · cases h
theorem K162 {X : Ctx} (hX : X.intr 162 = some (pureFn sp162)) (ha : AV) (hs : List Pt) (err : Int) (hl : slV ptC ha = some hs) (h : Heap) : Cl X 162 [.agg [ha, .int .i64 err]] h (.ret (.bool (butB hs err)) h none) :=
  Cl.intr hX (by simp [pureFn, AV.pur, AV.purL, sl_pur hl, sp162, hl])
theorem R51 : ∀ args v, sp162 args = some v → ClR (dX cHD) 51 args emptyHp (isRet v) := by
  intro args v h
  unfold sp162 at h
  split at h
  · rename_i ha err
    simp only [Option.map_eq_some_iff] at h
    obtain ⟨hs, hl, rfl⟩ := h
    have hout := sl_out hl
    have htup := (slV_is hl).1.tup
    simp only [isTuple] at htup
    have k28 := fun h => K28 (X := dX cHD) rfl ha hs 2 4 80 hl h
    have HB := Lib.hid (show butB hs err = (pointsB hs 2 4 80 && inB err 0 4) by unfold butB; rw [allB_P])
    generalize butB hs err = b at *
    generalize pointsB hs 2 4 80 = a at *
    clear hl
    refine ClR.walk (c := _) rfl Tryz.func51 rfl (by kernel_rfl) rfl isRet_fail ?_
    simp only [entryEnv, Nat.reduceAdd]
    cases a with
    | false =>
      repeat' (first | refine goS ?_ | (apply U6; exact Z1; exact Z1; (focus (simp only [List.nil_append, List.append_nil]; first | exact K97 rfl _ _ _ _ | exact k28 _)); simp only [pM, pN, rR, rP]) | refine go2 (fun hh => ?_) (fun hh => ?_) | fail)
      all_goals simp only [resV_def (X := dX cHD) Tryz.func51, Tryz.results51, resultsV, resultV, go_sem, *, Nat.reduceLT, Int.reduceEq, Int.reduceBEq, Int.reduceLE, Int.reduceLT, Nat.reduceAdd, Nat.reduceBEq, Nat.reduceEqDiff, reduceIte, Nat.reduceLeDiff, Nat.reduceMul, Nat.reduceSub, reduceCtorEq, frzRes, dFrz, frzCells, isRet_ret, tupleOf]
      rw [HB.out]; rfl
    | true =>
      repeat' (first | refine goS ?_ | (apply U6; exact Z1; exact Z1; (focus (simp only [List.nil_append, List.append_nil]; first | exact K97 rfl _ _ _ _ | exact k28 _)); simp only [pM, pN, rR, rP]) | refine go2 (fun hh => ?_) (fun hh => ?_) | fail)
      all_goals simp only [resV_def (X := dX cHD) Tryz.func51, Tryz.results51, resultsV, resultV, go_sem, *, Nat.reduceLT, Int.reduceEq, Int.reduceBEq, Int.reduceLE, Int.reduceLT, Nat.reduceAdd, Nat.reduceBEq, Nat.reduceEqDiff, reduceIte, Nat.reduceLeDiff, Nat.reduceMul, Nat.reduceSub, reduceCtorEq, frzRes, dFrz, frzCells, isRet_ret, tupleOf]
      rw [HB.out]; simp
  · cases h
theorem F51 : IntrFn Tryz.prog 51 (pureFn sp162) := pure_fn (X := dX cHD) cHD_sound p162 R51
theorem K51 {X : Ctx} (hX : X.intr 51 = some (pureFn sp162)) (ha : AV) (hs : List Pt) (err : Int) (hl : slV ptC ha = some hs) (h : Heap) : Cl X 51 [.agg [ha, .int .i64 err]] h (.ret (.bool (butB hs err)) h none) :=
  Cl.intr hX (by simp [pureFn, AV.pur, AV.purL, sl_pur hl, sp162, hl])
def suitB (m : Bool) (ss hs : List Pt) (err : Int) : Bool := m && butB hs err && decide (hs.length = ss.length)
def sp112 : List AV → Option AV
  | [.agg [sa, .int .i64 cxl, .int .i64 cxh, .int .i64 cyl, .int .i64 cyh, .int .i64 wxl, .int .i64 wxh, .int .i64 wyl, .int .i64 wyh, ra], .agg [ha, .int .i64 err]] => match slV ptC sa, slV rdgC ra, slV ptC ha with
    | some ss, some rs, some hs => some (.bool (suitB (machB ss ⟨cxl, cxh⟩ ⟨cyl, cyh⟩ ⟨wxl, wxh⟩ ⟨wyl, wyh⟩ rs) ss hs err))
    | _, _, _ => none
  | _ => none
theorem p112 : ∀ args v, sp112 args = some v → v.pur = true := by
  intro args v h
  unfold sp112 at h
  split at h
  · split at h
    · cases h; rfl
    · cases h
  · cases h
noncomputable def cHD2 : FuncId → Option (List AV → Heap → Option (AV × Heap))
  | 101 => some (flatFn sp101)
  | 162 => some (pureFn sp162)
  | _ => none
theorem cHD2_sound : Sound (dX cHD2) := dX_sound (fun f g h => by
  unfold cHD2 at h
  split at h
  · cases h; exact F101
  · cases h; exact F162
  · cases h)
set_option maxHeartbeats 1000000 in
theorem F112 : IntrFn Tryz.prog 112 (pureFn sp112) := by
  refine pure_fn (X := dX cHD2) cHD2_sound p112 ?_
  intro args v h
  unfold sp112 at h
  split at h
  · rename_i sa cxl cxh cyl cyh wxl wxh wyl wyh ra ha err
    split at h
    · rename_i ss rs hs hl hr hh
      have h := Option.some.inj h
      subst h
      have o1 := sl_out hh
      have o2 := sl_out hl
      have o3 := sl_out hr
      have l1 := sl_len hh
      have l2 := sl_len hl
      obtain ⟨one1, t1⟩ := sl_one hh
      obtain ⟨one2, t2⟩ := sl_one hl
      obtain ⟨one3, t3⟩ := sl_one hr
      have k101 := fun hp => K101 (X := dX cHD2) rfl sa ra ss rs ⟨cxl, cxh⟩ ⟨cyl, cyh⟩ ⟨wxl, wxh⟩ ⟨wyl, wyh⟩ hl hr hp
      have k162 := fun hp => K162 (X := dX cHD2) rfl ha hs err hh hp
      have HOK := Lib.hid (show suitB (machB ss ⟨cxl, cxh⟩ ⟨cyl, cyh⟩ ⟨wxl, wxh⟩ ⟨wyl, wyh⟩ rs) ss hs err = (machB ss ⟨cxl, cxh⟩ ⟨cyl, cyh⟩ ⟨wxl, wxh⟩ ⟨wyl, wyh⟩ rs && butB hs err && decide (hs.length = ss.length)) from rfl)
      generalize suitB (machB ss ⟨cxl, cxh⟩ ⟨cyl, cyh⟩ ⟨wxl, wxh⟩ ⟨wyl, wyh⟩ rs) ss hs err = ok at *
      generalize machB ss ⟨cxl, cxh⟩ ⟨cyl, cyh⟩ ⟨wxl, wxh⟩ ⟨wyl, wyh⟩ rs = b1 at *
      generalize butB hs err = b2 at *
      clear hh hl hr
      refine ClR.walk (c := _) rfl Tryz.func112 rfl (by kernel_rfl) rfl isRet_fail ?_
      simp only [entryEnv, Nat.reduceAdd, emptyHp]
      have hcase : (b1 = false) ∨ (b1 = true ∧ b2 = false) ∨ (b1 = true ∧ b2 = true) := by cases b1 <;> cases b2 <;> simp
      have HE := Lib.hid (show ((hs.length : Int) == (ss.length : Int)) = decide (hs.length = ss.length) by
        rw [Bool.eq_iff_iff]; simp only [beq_iff_eq, decide_eq_true_eq]; omega)
      rcases hcase with q1 | ⟨q1, q2⟩ | ⟨q1, q2⟩
      · subst q1
        repeat' (first | refine goS ?_ | (apply U6; exact Z1; exact Z1; (focus (simp only [List.nil_append, List.append_nil]; first | exact k101 _ | exact k162 _)); simp only [pM, pN, rR, rP]) | refine go2 (fun hh => ?_) (fun hh => ?_) | fail)
        all_goals simp only [resV_def (X := dX cHD2) Tryz.func112, Tryz.results112, resultsV, resultV, go_sem, *, Nat.reduceLT, Int.reduceEq, Int.reduceBEq, Int.reduceLE, Int.reduceLT, Nat.reduceAdd, Nat.reduceBEq, Nat.reduceEqDiff, reduceIte, Nat.reduceLeDiff, Nat.reduceMul, Nat.reduceSub, reduceCtorEq, frzRes, dFrz, frzCells, isRet_ret, tupleOf]
        rw [HOK.out]; rfl
      · subst q1 q2
        repeat' (first | refine goS ?_ | (apply U6; exact Z1; exact Z1; (focus (simp only [List.nil_append, List.append_nil]; first | exact k101 _ | exact k162 _)); simp only [pM, pN, rR, rP]) | refine go2 (fun hh => ?_) (fun hh => ?_) | fail)
        all_goals simp only [resV_def (X := dX cHD2) Tryz.func112, Tryz.results112, resultsV, resultV, go_sem, *, Nat.reduceLT, Int.reduceEq, Int.reduceBEq, Int.reduceLE, Int.reduceLT, Nat.reduceAdd, Nat.reduceBEq, Nat.reduceEqDiff, reduceIte, Nat.reduceLeDiff, Nat.reduceMul, Nat.reduceSub, reduceCtorEq, frzRes, dFrz, frzCells, isRet_ret, tupleOf]
        rw [HOK.out]; rfl
      · subst q1 q2
        repeat' (first | refine goS ?_ | (apply U6; exact Z1; exact Z1; (focus (simp only [List.nil_append, List.append_nil]; first | exact k101 _ | exact k162 _)); simp only [pM, pN, rR, rP]) | refine go2 (fun hh => ?_) (fun hh => ?_) | fail)
        all_goals simp only [resV_def (X := dX cHD2) Tryz.func112, Tryz.results112, resultsV, resultV, go_sem, *, Nat.reduceLT, Int.reduceEq, Int.reduceBEq, Int.reduceLE, Int.reduceLT, Nat.reduceAdd, Nat.reduceBEq, Nat.reduceEqDiff, reduceIte, Nat.reduceLeDiff, Nat.reduceMul, Nat.reduceSub, reduceCtorEq, frzRes, dFrz, frzCells, isRet_ret, tupleOf]
        rw [HOK.out, HE.out]; rfl
    · cases h
  · cases h
theorem K112 {X : Ctx} (hX : X.intr 112 = some (pureFn sp112)) (sa ra ha : AV) (ss hs : List Pt) (rs : List Rdg) (cx cy wx wy : Sp) (err : Int) (hl : slV ptC sa = some ss) (hr : slV rdgC ra = some rs) (hh : slV ptC ha = some hs) (h : Heap) :
    Cl X 112 [.agg [sa, .int .i64 cx.lo, .int .i64 cx.hi, .int .i64 cy.lo, .int .i64 cy.hi, .int .i64 wx.lo, .int .i64 wx.hi, .int .i64 wy.lo, .int .i64 wy.hi, ra], .agg [ha, .int .i64 err]] h (.ret (.bool (suitB (machB ss cx cy wx wy rs) ss hs err)) h none) :=
  Cl.intr hX (by simp [pureFn, AV.pur, AV.purL, sl_pur hl, sl_pur hr, sl_pur hh, sp112, hl, hr, hh])
end Go.AM
set_option linter.unusedSectionVars false
set_option linter.unusedVariables false
set_option linter.unusedSimpArgs false
namespace Go.AM
open Go
variable [Keep]
def newRes (h : Heap) (sz : Nat) (el rest : List AV) : AV × Heap :=
  if el.isEmpty then (.tuple (.nilslice :: rest), h) else (.tuple (.row h.next 0 el.length :: rest), h.new (.rw sz el))
def newFn (sz : Nat) (spec : List AV → Option (List AV × List AV)) : List AV → Heap → Option (AV × Heap) := fun args h => match viewDs h args with
  | some l => (match spec l with | some (el, rest) => some (newRes h sz el rest) | none => none)
  | none => none
theorem BR.flat {C D : Cfg} {w w' : World} {L : Loc} {sz : Nat} {el : List AV} (h : BR C w L (.rw sz el)) (hf : ∀ e ∈ el, ∀ x ∈ e.cells, x.flat = true) (e : w'.heap[L.b]? = w.heap[L.b]?) : BR D w' L (.rw sz el) := by
  obtain ⟨c, h1, h2, h3, h4, h5⟩ := h
  refine ⟨c, h1.same e, h2, h3, h4, fun i x hx => ?_⟩
  obtain ⟨k1, k2, k3⟩ := h5 i x hx
  refine ⟨k1, k2, fun j y hy => ?_⟩
  obtain ⟨v, hv, hr⟩ := k3 j y hy
  exact ⟨v, hv, hr.flat (hf x (List.mem_of_getElem? hx) y (List.mem_of_getElem? hy))⟩
variable {C : Cfg} {h : Heap} {w : World}
theorem tuple_flat {C D : Cfg} {a b : AV} {rest : List AV} {u : Value} (q : VR C (.tuple (a :: rest)) u) (hf : ∀ x ∈ rest, x.flat = true) (ha : ∀ v, VR C a v → VR D b v) : VR D (.tuple (b :: rest)) u := by
  cases q with
  | tuple h1 h2 =>
    refine .tuple h1 fun i hi => ?_
    have := h2 i hi
    cases i with
    | zero => exact ha _ (by simpa using this)
    | succ i =>
      refine this.flat ?_
      have hil : i < rest.length := by simpa using hi
      have : (a :: rest).getD (i + 1) .junk = rest[i] := by simp [List.getD, hil]
      rw [this]
      exact hf _ (List.getElem_mem hil)
theorem new_intr {X : Ctx} (s : Sound X) {f : FuncId} {sz : Nat} {spec : List AV → Option (List AV × List AV)}
    (hp : ∀ args el rest, spec args = some (el, rest) → (∀ e ∈ el, ∀ x ∈ e.cells, x.flat = true) ∧ ∀ x ∈ rest, x.flat = true)
    (hr : ∀ args el rest, spec args = some (el, rest) → ∃ v h', Cl X f args emptyHp (.ret (.tuple (v :: rest)) h' none) ∧ Blt h' v sz el) : IntrFn X.P f (newFn sz spec) := by
  intro args h v h' hg C w vs r hv
  unfold newFn at hg
  split at hg
  · rename_i l hl
    split at hg
    · rename_i el rest hsp
      obtain ⟨v0, h1, ⟨n, hn⟩, hb⟩ := hr l el rest hsp
      obtain ⟨hf1, hf2⟩ := hp l el rest hsp
      have hcall := hn n (Nat.le_refl _)
      obtain ⟨p1, p2⟩ := viewDs_ok r hv hl
      have hok := s.call n f l emptyHp ⟨fun _ => none, w.cell?⟩ w vs ⟨fun _ _ h => h, fun id blk e => by simp [emptyHp, Heap.get] at e, fun id id' blk blk' L L' e => by simp [emptyHp, Heap.get] at e, fun id blk L x v e => by simp [emptyHp, Heap.get] at e, fun id L e => (by cases e), r.base.on r.sig (fun _ _ _ => rfl)⟩ p2 (by rw [hcall]; intro e; cases e)
      refine ⟨hok.1, fun cs => ?_⟩
      have := hok.2 cs
      rw [hcall] at this
      obtain ⟨C', w', fr, u, q1, q2, q3, q4, q5, q6⟩ := this
      have hsame : ∀ β, β < w.heap.size → w'.heap[β]? = w.heap[β]? := fun β hb => q6.same β hb emptyHp_live id
      have hsg : ∀ x u, C.sig x = some u → w'.cell? x = some u := fun x u e => by
        have h1 := r.sig x u e
        have hb := WR.sig_lt (F := Fr.mk 0 false .nil .nil h [] none) r e
        unfold World.cell? at h1 ⊢
        rw [hsame _ hb]
        exact h1
      have hbase : Base C w' := r.base.on (fun _ _ e => e) (fun x v e => hsame _ (WR.sig_lt (F := Fr.mk 0 false .nil .nil h [] none) r e))
      have hg := Option.some.inj hg
      unfold newRes at hg
      rcases hb with ⟨rfl, rfl⟩ | ⟨id0, rfl, hrow, hid0, hne⟩
      · simp only [List.isEmpty_nil, if_true, Prod.mk.injEq] at hg
        obtain ⟨rfl, rfl⟩ := hg
        refine ⟨C, w', fr, u, q1, q2, q3, tuple_flat q4 hf2 (fun v q => by cases q; exact .nilslice), ⟨hsg, fun id blk e => ?_, r.inj, r.apart, r.fresh, hbase⟩, ?_⟩
        · obtain ⟨L, k1, k2⟩ := r.blk id blk e
          exact ⟨L, k1, k2.same (.refl C) (hsame _ k2.lt)⟩
        · exact { le := .refl C, os := q6.os, tape := q6.tape, output := q6.output, size := q6.size, same := fun β hb _ _ => hsame β hb, live := fun β hb l => .inl l,
                  own := fun _ _ o => o.elim, sig := fun x u hb e => .inl e, next := Nat.le_refl _ }
      · have hem : el.isEmpty = false := by cases el with
          | nil => exact absurd rfl hne
          | cons a b => rfl
        simp only [hem, Bool.false_eq_true, if_false, Prod.mk.injEq] at hg
        obtain ⟨rfl, rfl⟩ := hg
        obtain ⟨L, m1, m2⟩ := q5.blk id0 _ hrow
        have hnew : w.heap.size ≤ L.b := by
          rcases Nat.lt_or_ge L.b w.heap.size with q | q
          · exfalso
            rcases q6.live L.b q ⟨id0, _, L, hrow, m1, rfl⟩ with k | k
            · exact emptyHp_live k
            · exact k
          · exact q
        have hnm : C.mu h.next = none := by
          cases e : C.mu h.next with
          | none => rfl
          | some L' => exact absurd (r.fresh _ _ e) (by omega)
        let D : Cfg := ⟨fun i => if i = h.next then some L else C.mu i, C.sig⟩
        have hD : C.le D := ⟨fun i L' e => by
          show (if i = h.next then some L else C.mu i) = some L'
          rw [if_neg (fun q => by rw [q, hnm] at e; cases e)]; exact e, fun _ _ e => e⟩
        have hDn : D.mu h.next = some L := by show (if h.next = h.next then some L else C.mu h.next) = some L; rw [if_pos rfl]
        have hDo : ∀ i, i ≠ h.next → D.mu i = C.mu i := fun i q => by show (if i = h.next then some L else C.mu i) = C.mu i; rw [if_neg q]
        have old : ∀ id blk, (h.new (.rw sz el)).get id = some blk → id ≠ h.next → h.get id = some blk := fun id blk e q => by
          rw [Heap.get_new, if_neg (fun k => q k.symm)] at e; exact e
        have lb : ∀ id blk L', h.get id = some blk → C.mu id = some L' → L'.b < w.heap.size := fun id blk L' e1 e2 => by
          obtain ⟨L2, k1, k2⟩ := r.blk id blk e1
          rw [e2] at k1; cases k1
          exact k2.lt
        refine ⟨D, w', fr, u, q1, q2, q3, tuple_flat q4 hf2 (fun v q => ?_), ⟨hsg, fun id blk e => ?_, fun id id' blk blk' L1 L2 e e' k k' kb => ?_, fun id blk L1 x v e k ks => ?_, fun id L1 k => ?_, hbase.on (fun _ _ e => e) (fun _ _ _ => rfl)⟩, ?_⟩
        · cases q with
          | row a h1 h2 h3 h4 =>
            rw [m1] at h1
            cases h1
            exact .row a hDn h2 h3 h4
        · by_cases q : id = h.next
          · subst q
            rw [Heap.get_new, if_pos rfl] at e
            cases e
            exact ⟨L, hDn, m2.flat hf1 rfl⟩
          · obtain ⟨L', k1, k2⟩ := r.blk id blk (old _ _ e q)
            exact ⟨L', by rw [hDo _ q]; exact k1, k2.same hD (hsame _ k2.lt)⟩
        · by_cases q : id = h.next
          · by_cases q' : id' = h.next
            · rw [q, q']
            · subst q
              rw [hDn] at k; cases k
              rw [hDo _ q'] at k'
              have := lb _ _ _ (old _ _ e' q') k'
              omega
          · by_cases q' : id' = h.next
            · subst q'
              rw [hDn] at k'; cases k'
              rw [hDo _ q] at k
              have := lb _ _ _ (old _ _ e q) k
              omega
            · rw [hDo _ q] at k
              rw [hDo _ q'] at k'
              exact r.inj _ _ _ _ _ _ (old _ _ e q) (old _ _ e' q') k k' kb
        · by_cases q : id = h.next
          · subst q
            rw [hDn] at k; cases k
            have := WR.sig_lt (F := Fr.mk 0 false .nil .nil h [] none) r ks
            omega
          · rw [hDo _ q] at k
            exact r.apart _ _ _ _ _ (old _ _ e q) k ks
        · show id < h.next + 1
          by_cases q : id = h.next
          · omega
          · rw [hDo _ q] at k
            have := r.fresh _ _ k
            omega
        · have hlive : ∀ β, β < w.heap.size → Live D (h.new (.rw sz el)) β → Live C h β := by
            rintro β hb ⟨id, blk, L1, e1, e2, e3⟩
            by_cases q : id = h.next
            · subst q
              rw [hDn] at e2; cases e2
              omega
            · exact ⟨id, blk, L1, old _ _ e1 q, by rw [hDo _ q] at e2; exact e2, e3⟩
          exact { le := hD, os := q6.os, tape := q6.tape, output := q6.output, size := q6.size, same := fun β hb _ _ => hsame β hb, live := fun β hb l => .inl (hlive β hb l),
                  own := fun _ _ o => o.elim, sig := fun x u hb e => .inl e, next := Nat.le_succ _ }
    · cases hg
  · cases hg
def isNew (sz : Nat) (el rest : List AV) : COut → Prop
  | .ret (.tuple (v :: r)) h none => r = rest ∧ Blt h v sz el
  | _ => False
theorem isNew_fail {sz : Nat} {el rest : List AV} : ¬ isNew sz el rest .fail := id
theorem isNew_mk {sz : Nat} {el rest : List AV} {v : AV} {h : Heap} (b : Blt h v sz el) : isNew sz el rest (.ret (.tuple (v :: rest)) h none) := ⟨rfl, b⟩
theorem new_fn {X : Ctx} (s : Sound X) {f : FuncId} {sz : Nat} {spec : List AV → Option (List AV × List AV)}
    (hp : ∀ args el rest, spec args = some (el, rest) → (∀ e ∈ el, ∀ x ∈ e.cells, x.flat = true) ∧ ∀ x ∈ rest, x.flat = true)
    (hr : ∀ args el rest, spec args = some (el, rest) → ClR X f args emptyHp (isNew sz el rest)) : IntrFn X.P f (newFn sz spec) :=
  new_intr s hp fun args el rest h => by
    obtain ⟨r, h1, h2⟩ := hr args el rest h
    unfold isNew at h2
    split at h2
    · obtain ⟨rfl, h3⟩ := h2; exact ⟨_, _, h1, h3⟩
    · exact h2.elim
theorem newRes_is (h : Heap) (sz : Nat) (el rest : List AV) : ∃ v h', newRes h sz el rest = (.tuple (v :: rest), h') ∧ Blt h' v sz el ∧ h.next ≤ h'.next ∧ ∀ id, id < h.next → h'.get id = h.get id := by
  unfold newRes
  cases el with
  | nil => exact ⟨.nilslice, h, rfl, .inl ⟨rfl, rfl⟩, Nat.le_refl _, fun _ _ => rfl⟩
  | cons a r =>
    refine ⟨.row h.next 0 (a :: r).length, h.new (.rw sz (a :: r)), rfl, .inr ⟨h.next, rfl, by rw [Heap.get_new, if_pos rfl], Nat.lt_succ_self _, by simp⟩, Nat.le_succ _, fun id hid => ?_⟩
    rw [Heap.get_new, if_neg (by omega)]
theorem Cl.new {X : Ctx} {f : FuncId} {sz : Nat} {spec : List AV → Option (List AV × List AV)} {args l el rest : List AV} {h : Heap} (hX : X.intr f = some (newFn sz spec)) (hv : viewDs h args = some l) (hs : spec l = some (el, rest)) :
    ∃ v h', Cl X f args h (.ret (.tuple (v :: rest)) h' none) ∧ Blt h' v sz el ∧ h.next ≤ h'.next ∧ ∀ id, id < h.next → h'.get id = h.get id := by
  obtain ⟨v, h', e, hb, hx⟩ := newRes_is h sz el rest
  exact ⟨v, h', Cl.intr hX (by simp [newFn, hv, hs, e]), hb, hx⟩
end Go.AM
set_option linter.unusedSectionVars false
set_option linter.unusedVariables false
set_option linter.unusedSimpArgs false
set_option maxRecDepth 100000
namespace Go.AM
open Go Go.Proofs
variable [Keep]
attribute [local irreducible] W WO WO1 WD WQ WT thenQ blockQ endR isRet retK Cl ClR
attribute [local irreducible] isNew roundQ RdR clR boundsS machB
def cellI (b sz : Nat) (l : List AV) (h : Heap) : Prop := b < h.next ∧ ∃ v, h.get b = some (.var [v]) ∧ Blt h v sz l
def cellO (b : Nat) (h : Heap) (id : Nat) : Prop := id = b ∨ ∃ off n, h.get b = some (.var [.row id off n])
theorem cell_ok {σ : Type} (b sz : Nat) (f : σ → List AV) (P : σ → Prop) : OwnOk (fun s h => cellI b sz (f s) h ∧ P s) (cellO b) := by
  refine ⟨fun s h h' i hn hg => ?_, fun s h id i ho => ?_⟩
  · obtain ⟨⟨hb, v, g, bl⟩, hp⟩ := i
    have e := hg b (.inl rfl)
    refine ⟨⟨⟨Nat.lt_of_lt_of_le hb hn, v, e.trans g, ?_⟩, hp⟩, fun id ho => ?_⟩
    · rcases bl with q | ⟨id, q1, q2, q3, q4⟩
      · exact .inl q
      · subst q1
        exact .inr ⟨id, rfl, (hg id (.inr ⟨_, _, g⟩)).trans q2, Nat.lt_of_lt_of_le q3 hn, q4⟩
    · rcases ho with q | ⟨off, n, q⟩
      · exact .inl q
      · exact .inr ⟨off, n, by rw [← e]; exact q⟩
  · obtain ⟨⟨hb, v, g, bl⟩, _⟩ := i
    rcases ho with rfl | ⟨off, n, q⟩
    · exact hb
    · rw [g] at q
      cases q
      rcases bl with ⟨q, _⟩ | ⟨id', q1, q2, q3, q4⟩
      · cases q
      · cases q1; exact q3
theorem cell_put {b sz : Nat} {l : List AV} {h : Heap} {id : Nat} {bl : Blk} (i : cellI b sz l h) (hL : (∀ vs, h.get id ≠ some (.var vs)) ∧ ∀ z r, h.get id ≠ some (.rw z r)) : cellI b sz l (h.put id bl) := by
  obtain ⟨hb, v, g, bl⟩ := i
  refine ⟨hb, v, ?_, ?_⟩
  · rw [Heap.get_put, if_neg (fun e => hL.1 _ (e ▸ g))]; exact g
  · rcases bl with q | ⟨id', q1, q2, q3, q4⟩
    · exact .inl q
    · exact .inr ⟨id', q1, by rw [Heap.get_put, if_neg (fun e => hL.2 _ _ (e ▸ q2))]; exact q2, q3, q4⟩
theorem Blt.ne_row {h : Heap} {v : AV} {sz id : Nat} {l : List AV} (b : Blt h v sz l) (hg : ∀ z r, h.get id ≠ some (.rw z r)) : ∀ off n, v ≠ .row id off n := by
  intro off n e
  rcases b with ⟨q, _⟩ | ⟨id', q1, q2, _⟩
  · rw [q] at e; cases e
  · rw [q1] at e; cases e; exact hg _ _ q2
theorem Blt.putv {h : Heap} {v : AV} {sz id : Nat} {l : List AV} {bl : Blk} (b : Blt h v sz l) (hg : ∀ z r, h.get id ≠ some (.rw z r)) : Blt (h.put id bl) v sz l := by
  rcases b with q | ⟨id', q1, q2, q3, q4⟩
  · exact .inl q
  · exact .inr ⟨id', q1, by rw [Heap.get_put, if_neg (fun e => hg _ _ (e ▸ q2))]; exact q2, q3, q4⟩
theorem cell_not {b sz id : Nat} {l vs : List AV} {h : Heap} (i : cellI b sz l h) (hne : id ≠ b) (hg : h.get id = some (.var vs)) : ¬ cellO b h id := by
  obtain ⟨hb, v, g, bl⟩ := i
  rintro (q | ⟨off, n, q⟩)
  · exact hne q
  · rw [g] at q
    cases q
    exact bl.ne_row (fun z r => by rw [hg]; simp) _ _ rfl
def canB (cx cy wx wy : Sp) (rs : List Rdg) (n : Nat) (y : Bx) : Bool := (boundsS (ax0 cx wx rs [⟨n, y.x, y.y⟩])).isSome && (boundsS (ax1 cy wy rs [⟨n, y.x, y.y⟩])).isSome
def couldN (p : Nat → Bool) (k : Nat) : List Nat := ((List.range k).filter fun i => p (i + 1)).map (· + 1)
theorem couldN_succ (p : Nat → Bool) (k : Nat) : couldN p (k + 1) = if p (k + 1) then couldN p k ++ [k + 1] else couldN p k := by
  unfold couldN
  rw [List.range_succ, List.filter_append, List.map_append]
  cases h : p (k + 1) <;> simp [h]
theorem couldN_len (p : Nat → Bool) (k : Nat) : (couldN p k).length ≤ k := by
  unfold couldN
  rw [List.length_map]
  have := List.length_filter_le (fun i => p (i + 1)) (List.range k)
  simpa using this
def couldP (is : Bool) (l : List Nat) : List AV × List AV := if is then (natsV l, [.bool true]) else ([], [.bool false])
theorem natsV_flat : ∀ (l : List Nat), ∀ e ∈ natsV l, ∀ x ∈ e.cells, x.flat = true := by
  intro l e he x hx
  obtain ⟨k, _, rfl⟩ := List.mem_map.1 he
  simp [AV.cells] at hx
  subst hx; rfl
theorem couldP_flat (is : Bool) (l : List Nat) : (∀ e ∈ (couldP is l).1, ∀ x ∈ e.cells, x.flat = true) ∧ ∀ x ∈ (couldP is l).2, x.flat = true := by
  unfold couldP
  cases is
  · simp [AV.flat]
  · exact ⟨natsV_flat l, by simp [AV.flat]⟩
def possB (cx cy wx wy : Sp) (rs : List Rdg) : Bool := (boundsS (ax0 cx wx rs [])).isSome && (boundsS (ax1 cy wy rs [])).isSome
def stepC (p : Bx → Bool) (n : Nat) (y : Bx) (s : List Nat) : List Nat × Bool := if p y then (s ++ [n], false) else (s, true)
theorem foldS_any (p : Bx → Bool) (n : Nat) : ∀ (l : List Bx) (s : List Nat), foldS (stepC p n) l s = if l.any p then (s ++ [n], false) else (s, true) := by
  intro l
  induction l with
  | nil => intro s; rfl
  | cons a l ih =>
    intro s
    cases h : p a with
    | true => simp [foldS, stepC, h]
    | false => simp [foldS, stepC, h, ih]
theorem kn_yes {A B : Ax} (h : ((boundsS A).isSome && (boundsS B).isSome) = true) : ∃ a b, knV A B = .tuple [.agg [a, b], .bool true] ∧ outV (some a) = some a ∧ outV (some b) = some b ∧ isTuple a = false ∧ isTuple b = false := by
  simp only [Bool.and_eq_true, Option.isSome_iff_exists] at h
  obtain ⟨⟨a, ha⟩, ⟨b, hb⟩⟩ := h
  exact ⟨_, _, by rw [knV_def, ha, hb]; rfl, (slN_is _).out, (slN_is _).out, (slN_is _).tup, (slN_is _).tup⟩
theorem kn_no {A B : Ax} (h : ((boundsS A).isSome && (boundsS B).isSome) = false) : knV A B = .tuple [.agg [.nilslice, .nilslice], .bool false] := by
  cases hA : boundsS A with
  | none => exact knV_no1 hA
  | some a => cases hB : boundsS B with
    | none => exact knV_no2 hB
    | some b => rw [hA, hB] at h; cases h
theorem K103y {X : Ctx} (hX : X.intr 103 = some (onHeap h103)) (sa ra mv : AV) (cx cy wx wy : Sp) (rs : List Rdg) (hr : slV rdgC ra = some rs) (hs : sa.one = true) (hm : mv.one = true) (hlen : rs.length ≤ 1000) (n : Nat) (y : Bx) (h : Heap) :
    Cl X 103 [.agg [sa, .int .i64 cx.lo, .int .i64 cx.hi, .int .i64 cy.lo, .int .i64 cy.hi, .int .i64 wx.lo, .int .i64 wx.hi, .int .i64 wy.lo, .int .i64 wy.hi, ra, mv], .vslice [.agg [.int .i64 n, .int .i64 y.x.lo, .int .i64 y.x.hi, .int .i64 y.y.lo, .int .i64 y.y.hi]]] h (.ret (knV (ax0 cx wx rs [⟨n, y.x, y.y⟩]) (ax1 cy wy rs [⟨n, y.x, y.y⟩])) h none) :=
  Cl.intr hX (by
    have h1 : slV heldC (.vslice [.agg [.int .i64 n, .int .i64 y.x.lo, .int .i64 y.x.hi, .int .i64 y.y.lo, .int .i64 y.y.hi]]) = some [⟨n, y.x, y.y⟩] := rfl
    have h2 : (Nat.ble (rs.length + ([⟨n, y.x, y.y⟩] : List Held).length) maxL && sa.one && mv.one) = true := by
      rw [hs, hm]
      simp [Nat.ble_eq]
      unfold maxL
      omega
    simp only [onHeap, h103, sp103, hr, h1, h2, if_true])
def sp132 : List AV → Option (List AV × List AV)
  | [.agg [sa, .int .i64 cxl, .int .i64 cxh, .int .i64 cyl, .int .i64 cyh, .int .i64 wxl, .int .i64 wxh, .int .i64 wyl, .int .i64 wyh, ra], .agg [ha, .int .i64 err]] => match slV ptC sa, slV rdgC ra, slV ptC ha with
    | some ss, some rs, some hs => if (decide (hs.length = ss.length) && decide (1 ≤ ss.length) && decide (ss.length ≤ 8) && decide (rs.length ≤ 1000)) = true then
        some (couldP (possB ⟨cxl, cxh⟩ ⟨cyl, cyh⟩ ⟨wxl, wxh⟩ ⟨wyl, wyh⟩ rs) (couldN (fun n => (boxL err ss hs).any (canB ⟨cxl, cxh⟩ ⟨cyl, cyh⟩ ⟨wxl, wxh⟩ ⟨wyl, wyh⟩ rs n)) 12)) else none
    | _, _, _ => none
  | _ => none
theorem p132 : ∀ args el rest, sp132 args = some (el, rest) → (∀ e ∈ el, ∀ x ∈ e.cells, x.flat = true) ∧ ∀ x ∈ rest, x.flat = true := by
  intro args el rest h
  unfold sp132 at h
  split at h
  · split at h
    · split at h
      · have h := Option.some.inj h
        have e1 := congrArg Prod.fst h
        have e2 := congrArg Prod.snd h
        simp only at e1 e2
        rw [← e1, ← e2]
        exact couldP_flat _ _
      · cases h
    · cases h
  · cases h
noncomputable def cHE : FuncId → Option (List AV → Heap → Option (AV × Heap))
  | 96 => some (pureFn sp96)
  | 103 => some (onHeap h103)
  | 116 => some (flatFn sp116)
  | 164 => some (flatFn sp164)
  | _ => none
theorem cHE_sound : Sound (dX cHE) := dX_sound (fun f g h => by
  unfold cHE at h
  split at h
  · cases h; exact F96
  · cases h; exact H103
  · cases h; exact F116
  · cases h; exact F164
  · cases h)
set_option maxHeartbeats 8000000 in
theorem F132 : IntrFn Tryz.prog 132 (newFn 1 sp132) := by
  refine new_fn (X := dX cHE) cHE_sound p132 ?_
  intro args el rest h
  unfold sp132 at h
  split at h
  · rename_i sa cxl cxh cyl cyh wxl wxh wyl wyh ra ha err
    split at h
    · rename_i ss rs hs hl hr hh
      split at h
      · rename_i hc
        have h := Option.some.inj h
        have e1 := congrArg Prod.fst h
        have e2 := congrArg Prod.snd h
        simp only at e1 e2
        rw [← e1, ← e2]
        clear h e1 e2
        simp only [Bool.and_eq_true, decide_eq_true_eq] at hc
        obtain ⟨⟨⟨hsl, hn1⟩, hn8⟩, hrl⟩ := hc
        have o1 := sl_out hh
        have o2 := sl_out hl
        have o3 := sl_out hr
        obtain ⟨one1, t1⟩ := sl_one hh
        obtain ⟨one2, t2⟩ := sl_one hl
        obtain ⟨one3, t3⟩ := sl_one hr
        have c1 : ha.cells = [ha] := by rcases (slV_is hh).1 with ⟨rfl | rfl, _⟩ | rfl <;> rfl
        have c2 : sa.cells = [sa] := by rcases (slV_is hl).1 with ⟨rfl | rfl, _⟩ | rfl <;> rfl
        have c3 : ra.cells = [ra] := by rcases (slV_is hr).1 with ⟨rfl | rfl, _⟩ | rfl <;> rfl
        simp only [AV.cells] at c1 c2 c3
        have hk : ∀ (hp : Heap) (mv : AV), mv.one = true → Cl (dX cHE) 103 [.agg [sa, .int .i64 cxl, .int .i64 cxh, .int .i64 cyl, .int .i64 cyh, .int .i64 wxl, .int .i64 wxh, .int .i64 wyl, .int .i64 wyh, ra, mv], .nilslice] hp (.ret (knV (ax0 ⟨cxl, cxh⟩ ⟨wxl, wxh⟩ rs []) (ax1 ⟨cyl, cyh⟩ ⟨wyl, wyh⟩ rs [])) hp none) :=
          fun hp mv hmv => K103h (X := dX cHE) rfl sa ra mv ⟨cxl, cxh⟩ ⟨cyl, cyh⟩ ⟨wxl, wxh⟩ ⟨wyl, wyh⟩ rs hr one2 hmv hp
        have hy : ∀ (n : Nat) (y : Bx) (hp : Heap) (mv : AV), mv.one = true → Cl (dX cHE) 103 [.agg [sa, .int .i64 cxl, .int .i64 cxh, .int .i64 cyl, .int .i64 cyh, .int .i64 wxl, .int .i64 wxh, .int .i64 wyl, .int .i64 wyh, ra, mv], .vslice [.agg [.int .i64 n, .int .i64 y.x.lo, .int .i64 y.x.hi, .int .i64 y.y.lo, .int .i64 y.y.hi]]] hp (.ret (knV (ax0 ⟨cxl, cxh⟩ ⟨wxl, wxh⟩ rs [⟨n, y.x, y.y⟩]) (ax1 ⟨cyl, cyh⟩ ⟨wyl, wyh⟩ rs [⟨n, y.x, y.y⟩])) hp none) :=
          fun n y hp mv hmv => K103y (X := dX cHE) rfl sa ra mv ⟨cxl, cxh⟩ ⟨cyl, cyh⟩ ⟨wxl, wxh⟩ ⟨wyl, wyh⟩ rs hr one2 hmv hrl n y hp
        have h102 := fun n m => C102 cHE rfl sa ra ⟨cxl, cxh⟩ ⟨cyl, cyh⟩ ⟨wxl, wxh⟩ ⟨wyl, wyh⟩ (slV_is hl).1.frz1 (slV_is hr).1.frz1 n m
        have h113 := fun pn pm => C113 cHE rfl sa ha err ss hs hl hh pn pm
        have H102 := Lib.hid h102
        have HC113 := Lib.hid h113
        have HPO := Lib.hid (show possB ⟨cxl, cxh⟩ ⟨cyl, cyh⟩ ⟨wxl, wxh⟩ ⟨wyl, wyh⟩ rs = ((boundsS (ax0 ⟨cxl, cxh⟩ ⟨wxl, wxh⟩ rs [])).isSome && (boundsS (ax1 ⟨cyl, cyh⟩ ⟨wyl, wyh⟩ rs [])).isSome) from rfl)
        have HHY := Lib.hid hy
        have HL := Lib.hid hl
        have HH := Lib.hid hh
        have HSL := Lib.hid hsl
        clear h102 h113 hy hl hh hr hsl
        refine ClR.walk (c := _) rfl Tryz.func132 rfl (by kernel_rfl) rfl isNew_fail ?_
        simp only [entryEnv, Nat.reduceAdd, emptyHp]
        cases hpo : possB ⟨cxl, cxh⟩ ⟨cyl, cyh⟩ ⟨wxl, wxh⟩ ⟨wyl, wyh⟩ rs with
        | false =>
          have e1 := kn_no (HPO.out.symm.trans hpo)
          rw [e1] at hk
          have HK := Lib.hid hk
          clear hk e1 hpo
          simp only [couldP, Bool.false_eq_true, if_false]
          repeat' (first | (refine W.label ?_; simp only [tN, bN, eN, true_and]) | refine go1 ?_ | (apply U6; exact Z1; exact Z1; (focus (simp only [List.nil_append, List.append_nil]; first | exact H102.out _ _ | exact HK.out _ _ rfl)); simp only [pM, pN, rR, rP]) | refine go2 (fun hh => ?_) (fun hh => ?_) | fail)
          all_goals simp only [resV_def (X := dX cHE) Tryz.func132, Tryz.results132, resultsV, resultV, go_sem, *, Nat.reduceLT, Int.reduceEq, Int.reduceBEq, Int.reduceLE, Int.reduceLT, Nat.reduceAdd, Nat.reduceBEq, Nat.reduceEqDiff, reduceIte, Nat.reduceLeDiff, Nat.reduceMul, Nat.reduceSub, reduceCtorEq, frzRes, dFrz, frzCells, isRet_ret, tupleOf]
          exact isNew_mk Blt.nil
        | true =>
          obtain ⟨la, lb, e1, ou1, ou2, tu1, tu2⟩ := kn_yes (HPO.out.symm.trans hpo)
          rw [e1] at hk
          have HK := Lib.hid hk
          clear hk e1 hpo
          simp only [couldP, if_true]
          have HP := Lib.hid (show (fun n => (boxL err ss hs).any (canB ⟨cxl, cxh⟩ ⟨cyl, cyh⟩ ⟨wxl, wxh⟩ ⟨wyl, wyh⟩ rs n)) = fun n => (boxL err ss hs).any (canB ⟨cxl, cxh⟩ ⟨cyl, cyh⟩ ⟨wxl, wxh⟩ ⟨wyl, wyh⟩ rs n) from rfl)
          generalize hpp : (fun n => (boxL err ss hs).any (canB ⟨cxl, cxh⟩ ⟨cyl, cyh⟩ ⟨wxl, wxh⟩ ⟨wyl, wyh⟩ rs n)) = p
          have HPP := Lib.hid (show ∀ n, p n = (boxL err ss hs).any (canB ⟨cxl, cxh⟩ ⟨cyl, cyh⟩ ⟨wxl, wxh⟩ ⟨wyl, wyh⟩ rs n) from fun n => by rw [← hpp])
          clear hpp HP
          repeat' (first | (refine W.label ?_; simp only [tN, bN, eN, true_and]) | refine go1 ?_ | (apply U6; exact Z1; exact Z1; (focus (simp only [List.nil_append, List.append_nil]; first | exact H102.out _ _ | exact HK.out _ _ rfl)); simp only [pM, pN, rR, rP]) | refine go2 (fun hh => ?_) (fun hh => ?_) | fail)
          refine W.loopN 12 (fun k F => ∃ e lm hp q, F = Fr.mk 132 false e lm hp [] none ∧ cellI 2 1 (natsV (couldN p k)) hp ∧ hp.get 1 = some (.var [sa, .int .i64 cxl, .int .i64 cxh, .int .i64 cyl, .int .i64 cyh, .int .i64 wxl, .int .i64 wxh, .int .i64 wyl, .int .i64 wyh, ra, .map 0]) ∧ hp.get q = some (.var [.int .i64 ↑(k + 1)]) ∧ 2 < q ∧ q < hp.next ∧
            lm.get 2 = some (0, [sa, .int .i64 cxl, .int .i64 cxh, .int .i64 cyl, .int .i64 cyh, .int .i64 wxl, .int .i64 wxh, .int .i64 wyl, .int .i64 wyh, ra]) ∧ lm.get 3 = some (0, [ha, .int .i64 err]) ∧ e.get 2 = some (.lptr 2 0 0) ∧ e.get 3 = some (.lptr 3 0 0) ∧ e.get 6 = some (.ptr 1 0) ∧ e.get 9 = some (.ptr 2 0) ∧ e.get 10 = some (.ptr q 0) ∧ k ≤ 12) ?_ ?_
          · refine ⟨_, _, _, 3, rfl, ⟨by simp only; omega, .nilslice, rfl, Blt.nil⟩, rfl, rfl, by omega, by simp only; omega, ?_, ?_, ?_, ?_, ?_, ?_, ?_, ?_⟩ <;> first | exact Z2 | simp [go_sem, *]
          rintro k F ⟨e, lm, ⟨qn, qm⟩, q, rfl, hcell, g1, gq, hq2, hqn, hl2, hl3, h2, h3, h6, h9, h10, hk⟩
          simp only at hqn
          by_cases hlt : k < 12
          · have hd : decide (((k + 1 : Nat) : Int) ≤ 12) = true := by simp; omega
            have hw : IntKind.i64.wrap (((k + 1 : Nat) : Int) + 1) = ((k + 1 + 1 : Nat) : Int) := wrap_succ (k := k + 1) (m := 13) (by omega) (by unfold maxL; omega)
            have okc : OwnOk (fun (s : List Nat) h => cellI 2 1 (natsV s) h ∧ s.length ≤ 12) (cellO 2) := cell_ok 2 1 natsV (fun s => s.length ≤ 12)
            have i0 : cellI 2 1 (natsV (couldN p k)) ⟨qn, qm⟩ ∧ (couldN p k).length ≤ 12 := ⟨hcell, by have := couldN_len p k; omega⟩
            have no1 : ¬ cellO 2 ⟨qn, qm⟩ 1 := cell_not hcell (by omega) g1
            have noq : ¬ cellO 2 ⟨qn, qm⟩ q := cell_not hcell (by omega) gq
            have G1 := Lib.hid g1
            have GQ := Lib.hid gq
            simp only [hp_get] at g1 gq
            repeat' (first | (refine W.label ?_; simp only [tN, bN, eN, true_and]) | refine go1 ?_ | (apply U6; exact Z1; exact Z1; (focus (simp only [List.nil_append, List.append_nil]; first | exact HC113.out _ _)); simp only [pM, pN, rR, rP]) | refine go2 (fun hh => ?_) (fun hh => ?_) | fail)
            have X2 : ∀ blk, HExt ⟨qn, qm⟩ (Heap.new ⟨qn + 1 + 1, (qm.set qn (.var [sa])).set (qn + 1) (.var [ha, .int .i64 err])⟩ blk) := fun blk => by
              refine ⟨by simp only [Heap.new]; omega, fun id hid => ?_⟩
              simp only at hid
              rw [Heap.get_new, if_neg (by simp only; omega), hget_set, if_neg (by omega), hget_set, if_neg (by omega)]
              rfl
            have I2 := fun blk => (okc.ext _ _ _ i0 (X2 blk)).1
            have R2 := fun blk => okc.rel i0 (X2 blk)
            have F2 : ∀ blk id, qn ≤ id → ¬ cellO 2 (Heap.new ⟨qn + 1 + 1, (qm.set qn (.var [sa])).set (qn + 1) (.var [ha, .int .i64 err])⟩ blk) id := fun blk id hid ho => by
              have := okc.lt _ _ id i0 ((okc.ext _ _ _ i0 (X2 blk)).2 id ho)
              simp only at this
              omega
            have N2 : ∀ blk, (Heap.new ⟨qn + 1 + 1, (qm.set qn (.var [sa])).set (qn + 1) (.var [ha, .int .i64 err])⟩ blk).next = qn + 1 + 1 + 1 := fun _ => rfl
            have GA : ∀ blk, (Heap.new ⟨qn + 1 + 1, (qm.set qn (.var [sa])).set (qn + 1) (.var [ha, .int .i64 err])⟩ blk).get qn = some (.var [sa]) := fun blk => by
              rw [Heap.get_new, if_neg (by simp only; omega), hget_set, if_neg (by omega), hget_set, if_pos rfl]
            have GB : ∀ blk, (Heap.new ⟨qn + 1 + 1, (qm.set qn (.var [sa])).set (qn + 1) (.var [ha, .int .i64 err])⟩ blk).get (qn + 1) = some (.var [ha, .int .i64 err]) := fun blk => by
              rw [Heap.get_new, if_neg (by simp only; omega), hget_set, if_pos rfl]
            have GL : ∀ blk, (Heap.new ⟨qn + 1 + 1, (qm.set qn (.var [sa])).set (qn + 1) (.var [ha, .int .i64 err])⟩ blk).get (qn + 1 + 1) = some blk := fun blk => by
              rw [Heap.get_new, if_pos rfl]
            apply W.rangeEnds (R := stU (fun (s : List Nat) h => cellI 2 1 (natsV s) h ∧ s.length ≤ 12) (fun (s : List Nat) h => cellI 2 1 (natsV s) h ∧ ∃ f e ps a b, h.get (qn + 1 + 1) = some (.loop f e ps a b .done (some (.exit 1)))) (cellO 2) (fun id => id = qn + 1 + 1) _ (foldS (stepC (canB ⟨cxl, cxh⟩ ⟨cyl, cyh⟩ ⟨wxl, wxh⟩ ⟨wyl, wyh⟩ rs (k + 1)) (k + 1)) (boxL err ss hs) (couldN p k)))
            · exact Z1
            · refine G163 (fun (s : List Nat) h => cellI 2 1 (natsV s) h ∧ s.length ≤ 12) (fun (s : List Nat) h => cellI 2 1 (natsV s) h ∧ ∃ f e ps a b, h.get (qn + 1 + 1) = some (.loop f e ps a b .done (some (.exit 1)))) (cellO 2) okc (stepC (canB ⟨cxl, cxh⟩ ⟨cyl, cyh⟩ ⟨wxl, wxh⟩ ⟨wyl, wyh⟩ rs (k + 1)) (k + 1)) cHE rfl rfl rfl rfl rfl rfl rfl rfl (qn + 1 + 1) qn (qn + 1) sa ha err ss hs HL.out HH.out HSL.out hn1 hn8 _ (couldN p k)
                (GA _) (GB _) (by rw [N2]; omega) (by rw [N2]; omega) (by rw [N2]; omega) (F2 _ _ (by omega)) (F2 _ _ (by omega)) (I2 _) ?_ ?_
              · rintro s h id b f e ps a d st pp ⟨i, f', e', ps', a', b', hL⟩ hne hg
                exact ⟨cell_put i ⟨fun vs e => (by rw [hg] at e; cases e), fun z r e => (by rw [hg] at e; cases e)⟩, f', e', ps', a', b', by rw [Heap.get_put, if_neg hne]; exact hL⟩
              intro s y h1' i3 kx
              have kL := kx.2 (qn + 1 + 1) (by rw [N2]; omega) (F2 _ _ (by omega))
              have hL := kL.1.trans (GL _)
              have fL := kL.2
              have lL1 : qn + 1 + 1 < h1'.next := Nat.lt_of_lt_of_le (by rw [N2]; omega) kx.1
              have rel1 := (R2 _).trans kx
              have w1 := (rel1.2 1 (by simp only; omega) no1).1.trans G1.out
              have wq := (rel1.2 q (by simp only; omega) noq).1.trans GQ.out
              obtain ⟨er, hE, hL⟩ : ∃ er, er = _ ∧ h1'.get (qn + 1 + 1) = some (.loop 132 er _ _ _ .ready none) := ⟨_, rfl, hL⟩
              have r6 : er.get 6 = some (.ptr 1 0) := by rw [hE, Mp.get_map]; simp [go_sem, *, noBox]
              have r9 : er.get 9 = some (.ptr 2 0) := by rw [hE, Mp.get_map]; simp [go_sem, *, noBox]
              have r10 : er.get 10 = some (.ptr q 0) := by rw [hE, Mp.get_map]; simp [go_sem, *, noBox]
              have HHL := Lib.hid hL
              have HI3 := Lib.hid i3
              have HFL := Lib.hid fL
              refine round_ok' hL rfl ?_
              clear hE hL kL fL rel1 i3 kx X2 I2 R2 F2 N2 GA GB GL h2 h3 h6 h9 h10 g1 gq hcell i0 hl2 hl3
              simp only [bxC]
              repeat' (first | refine goS ?_ | refine go2 (fun hh => ?_) (fun hh => ?_) | fail)
              rintro ⟨zn, zm⟩ hzn hzg hzL
              have q1 := (hzg 1 (by omega)).trans w1
              have qq := (hzg q (by omega)).trans wq
              have bi := rnd_in okc HI3.out hzn hzg HFL.out
              have bg : ∀ s4 h', _ → Rel (cellO 2) ⟨zn, zm⟩ h' → _ := fun s4 h' => back_go okc (s4 := s4) (h' := h') HI3.out hzn hzg HHL.out HFL.out lL1
              have lz : qn + 1 + 1 < zn := by rw [show zn = h1'.next from hzn]; exact lL1
              have HBI := Lib.hid bi
              have HBG := Lib.hid bg
              have HZL := Lib.hid hzL
              have HZN := Lib.hid hzn
              have HZG := Lib.hid hzg
              simp only [hp_get] at q1 qq
              clear hzn hzg hzL w1 wq bi bg
              have hy := fun hp mv hmv => HHY.out (k + 1) y hp mv hmv
              cases hcan : canB ⟨cxl, cxh⟩ ⟨cyl, cyh⟩ ⟨wxl, wxh⟩ ⟨wyl, wyh⟩ rs (k + 1) y with
              | false =>
                rw [kn_no hcan] at hy
                have HY := Lib.hid hy
                have HCAN := Lib.hid hcan
                clear hy hcan
                repeat' (first | refine goS ?_ | (apply U6; exact Z1; exact Z1; (focus (simp only [List.nil_append, List.append_nil]; first | exact HY.out _ _ rfl)); simp only [pM, pN, rR, rP]) | refine go2 (fun hh => ?_) (fun hh => ?_) | fail)
                rw [roundQ_norm]
                simp only [endV, HZL.out]
                have := HBG.out s _ HBI.out.1 (Rel.refl _ _)
                exact stR_go (by simp [stepC, HCAN.out]) this.1 this.2
              | true =>
                obtain ⟨lc, ld, e1, oc, od, tc, td⟩ := kn_yes hcan
                rw [e1] at hy
                have HY := Lib.hid hy
                have HCAN := Lib.hid hcan
                obtain ⟨⟨hb2, v, gv, bv⟩, hsl⟩ := HBI.out.1
                have HBV := Lib.hid bv
                have GV := Lib.hid gv
                have ov := bv.out
                have hvn : ∀ id vs, (Heap.mk zn zm).get id = some (.var vs) → ∀ off n, v ≠ .row id off n := fun id vs hg => bv.ne_row (fun z r => by rw [hg]; simp)
                have HVN := Lib.hid hvn
                have hll : s.length + (0 + 1) ≤ most := by unfold most; omega
                simp only [hp_get] at gv
                clear hy hcan e1 bv hvn
                repeat' (first | (apply WO1.appendE (t := 39) (u := 39) (e := 3) (e' := 3) (sz := 1) (tl := []) (hb := HBV.out); exact Z1; exact rfl; exact Z2; exact Z2; exact Z2; (focus (exact ty_row39)); exact Z1; (focus (intro v hv; simp at hv; subst hv; rfl)); (focus (simp only [natsV_len, List.length_cons, List.length_nil]; exact hll)); (focus (simp)); (intro v1 hp1 hB1 ho1 hK1 hE1; have hc1 := hB1.cells; have ht1 := hB1.tup; simp only [AV.cells] at hc1; simp only [isTuple] at ht1; obtain ⟨n1, m1⟩ := hp1; have hg2 := (hK1.2 2 hb2 (HVN.out 2 _ GV.out)).trans GV.out; simp only [hp_get] at hg2; have HG2 := Lib.hid hg2; have HK1 := Lib.hid hK1; have HB1 := Lib.hid hB1; clear hK1 hB1 hE1; simp only [pM, pN])) | refine go1 ?_ | (apply U6; exact Z1; exact Z1; (focus (simp only [List.nil_append, List.append_nil]; first | exact HY.out _ _ rfl)); simp only [pM, pN, rR, rP]) | refine go2 (fun hh => ?_) (fun hh => ?_) | fail)
                rw [roundQ_exit]
                have kL := (HK1.out.2 (qn + 1 + 1) lz (HBV.out.ne_row (fun z r => by rw [HZL.out]; simp))).trans HZL.out
                simp only [hp_get] at kL
                have d2 : ¬ 2 = qn + 1 + 1 := by omega
                simp only [endV, hp_get, Mp.get_set, d2, if_false, kL, hp_put]
                have bs := HB1.out
                refine stR_end (s := s ++ [k + 1]) (by simp [stepC, HCAN.out]) ⟨⟨⟨?_, v1, ?_, ?_⟩, ?_⟩, ?_, ?_⟩
                · simp only; exact Nat.lt_of_lt_of_le hb2 HK1.out.1
                · rw [hp_get, Mp.get_set, if_neg (fun e => d2 e.symm), Mp.get_set, if_pos rfl]
                · have hne2 : ∀ z r, (Heap.mk n1 m1).get 2 ≠ some (.rw z r) := fun z r e => by rw [hp_get, HG2.out] at e; cases e
                  have hneL : ∀ z r, (Heap.mk n1 m1).get (qn + 1 + 1) ≠ some (.rw z r) := fun z r e => by rw [hp_get, kL] at e; cases e
                  have b2 := (bs.putv (bl := .var [v1]) hne2)
                  have e4 : natsV (s ++ [k + 1]) = natsV s ++ [.int .i64 ((k + 1 : Nat) : Int)] := by simp [natsV]
                  rw [e4]
                  exact b2.putv (id := qn + 1 + 1) (fun z r e => by rw [Heap.get_put, if_neg d2] at e; exact hneL z r e)
                · exact ⟨_, _, _, _, _, by rw [hp_get, Mp.get_set, if_pos rfl]⟩
                · show h1'.next ≤ n1
                  rw [← HZN.out]; exact HK1.out.1
                · intro id hid he ho
                  have e2 : ¬ 2 = id := fun e => ho (.inl e.symm)
                  rw [hp_get, Mp.get_set, if_neg (fun e => he e.symm), Mp.get_set, if_neg e2]
                  have q3 := HK1.out.2 id (by rw [show (Heap.mk zn zm).next = h1'.next from HZN.out]; exact hid) (fun off n e => ho (HBI.out.2 _ (.inr ⟨off, n, by rw [GV.out, e]⟩)))
                  rw [hp_get] at q3
                  rw [q3]
                  exact HZG.out id he
            · intro r hcl hR
              have HR2 := Lib.hid R2
              rcases stU_or hR with ⟨s4, h', ex, rfl, i4, kr⟩ | ⟨s4, h', ex, rfl, ⟨d4, f, e1, ps, a1, b1, hb⟩, ke⟩
              · have kL := kr.2 (qn + 1 + 1) (by rw [N2]; omega) (F2 _ _ (by omega))
                have hL := kL.1.trans (GL _)
                have hfin := fun bl => fin_go okc (bl := bl) (h0 := ⟨qn, qm⟩) (L1 := qn + 1 + 1) (by simp only; omega) ((R2 _).trans kr) i4 kL.2
                refine W.rangeNorm rfl ?_ hcl hL (fun e => by cases e) ?_
                · first | exact Z2 | exact Z1
                clear hcl hL
                generalize hput : Heap.put h' _ _ = hz
                have hf : (cellI 2 1 (natsV s4) hz ∧ s4.length ≤ 12) ∧ Rel (cellO 2) ⟨qn, qm⟩ hz := by rw [← hput]; exact hfin _
                have hs4 : s4 = couldN p (k + 1) := by
                  rw [foldS_any] at ex
                  split at ex
                  · cases ex
                  · rename_i hany
                    cases ex
                    rw [couldN_succ, if_neg (by rw [HPP.out]; exact hany)]
                obtain ⟨zn, zm⟩ := hz
                have z1 := (hf.2.2 1 (by simp only; omega) no1).1.trans G1.out
                have zq := (hf.2.2 q (by simp only; omega) noq).1.trans GQ.out
                have hzn : qn ≤ zn := hf.2.1
                have i5 := hf.1
                rw [hs4] at i5
                simp only [hp_get] at z1 zq
                have hx5 : ∀ b, HExt ⟨zn, zm⟩ ⟨zn + 1, zm.set zn b⟩ := fun b => ⟨by simp only; omega, fun id hid => by simp only at hid; rw [hget_set, if_neg (by omega)]; rfl⟩
                have HX5 := Lib.hid hx5
                have HI5 := Lib.hid i5
                have n1 : (zn == q) = false := beq_eq_false_iff_ne.2 (by omega)
                have n2 : (zn == 1) = false := beq_eq_false_iff_ne.2 (by omega)
                clear hput hfin hf kL kr ex i4 hR X2 I2 R2 F2 N2 GA GB GL hs4 hx5 i5 i0 hcell
                simp only [bN, tN]
                repeat' (first | (refine W.label ?_; simp only [tN, bN, eN, true_and]) | refine go1 ?_ | refine go2 (fun hh => ?_) (fun hh => ?_) | fail)
                refine ⟨hlt, _, _, _, zn, rfl, (okc.ext _ _ _ HI5.out ⟨by simp only; omega, fun id hid => ?_⟩).1.1, ?_, ?_, by omega, by simp only; omega, ?_, ?_, ?_, ?_, ?_, ?_, ?_, by omega⟩
                · simp only at hid
                  rw [hget_set, if_neg (by omega), hget_set, if_neg (by omega), hget_set, if_neg (by omega)]
                  rfl
                all_goals first | exact Z2 | simp [go_sem, *]
              · refine W.rangeExit (ps := []) rfl ?_ hcl hb (fun e => by cases e) ?_
                · first | exact Z2 | exact Z1
                have hE2 := (R2 _).stop ke
                have hs4 : s4 = couldN p (k + 1) := by
                  rw [foldS_any] at ex
                  split at ex
                  · rename_i hany
                    cases ex
                    rw [couldN_succ, if_pos (by rw [HPP.out]; exact hany)]
                  · cases ex
                have d5 : ∀ bl, cellI 2 1 (natsV s4) (h'.put (qn + 1 + 1) bl) := fun bl => cell_put d4 ⟨fun vs e => (by rw [hb] at e; cases e), fun z r e => (by rw [hb] at e; cases e)⟩
                have hz1 := hE2.2 1 (by simp only; omega) (by omega) no1
                have hzq := hE2.2 q (by simp only; omega) (by omega) noq
                have hzn := hE2.1
                clear hcl
                generalize hput : Heap.put h' _ _ = hz
                have i5 : cellI 2 1 (natsV s4) hz := by rw [← hput]; exact d5 _
                rw [hs4] at i5
                have z1 := (show hz.get 1 = Heap.get ⟨qn, qm⟩ 1 by rw [← hput, Heap.get_put, if_neg (show ¬ qn + 1 + 1 = 1 by omega)]; exact hz1).trans G1.out
                have zq := (show hz.get q = Heap.get ⟨qn, qm⟩ q by rw [← hput, Heap.get_put, if_neg (show ¬ qn + 1 + 1 = q by omega)]; exact hzq).trans GQ.out
                have hzn : qn ≤ hz.next := by rw [← hput]; exact hzn
                obtain ⟨zn, zm⟩ := hz
                simp only at hzn
                simp only [hp_get] at z1 zq
                have HI5 := Lib.hid i5
                have n1 : (zn == q) = false := beq_eq_false_iff_ne.2 (by omega)
                have n2 : (zn == 1) = false := beq_eq_false_iff_ne.2 (by omega)
                clear hput hE2 d5 hz1 hzq ke ex d4 hR X2 I2 R2 F2 N2 GA GB GL hs4 i5 hb i0 hcell
                simp only [tX, bS, bO, Nat.reduceBEq, tN, bN]
                repeat' (first | (refine W.label ?_; simp only [tN, bN, eN, true_and]) | refine go1 ?_ | refine go2 (fun hh => ?_) (fun hh => ?_) | fail)
                refine ⟨hlt, _, _, _, zn, rfl, ((cell_ok 2 1 natsV (fun _ => True)).ext (couldN p (k + 1)) _ _ ⟨HI5.out, trivial⟩ ⟨by simp only; omega, fun id hid => ?_⟩).1.1, ?_, ?_, by omega, by simp only; omega, ?_, ?_, ?_, ?_, ?_, ?_, ?_, by omega⟩
                · simp only at hid
                  rw [hget_set, if_neg (by omega), hget_set, if_neg (by omega), hget_set, if_neg (by omega)]
                  rfl
                all_goals first | exact Z2 | simp [go_sem, *]
          · have hd : decide (((k + 1 : Nat) : Int) ≤ 12) = false := by simp; omega
            have hk12 : k = 12 := by omega
            subst hk12
            obtain ⟨hb2, v, gv, bv⟩ := hcell
            have HBV := Lib.hid bv
            have ov := bv.out
            have tv := bv.tup
            have cv := bv.cells
            simp only [AV.cells] at cv
            simp only [isTuple] at tv
            simp only [hp_get] at g1 gq gv
            clear bv hlt
            repeat' (first | (refine W.label ?_; simp only [tN, bN, eN, true_and]) | refine go1 ?_ | refine go2 (fun hh => ?_) (fun hh => ?_) | fail)
            all_goals simp only [resV_def (X := dX cHE) Tryz.func132, Tryz.results132, resultsV, resultV, go_sem, *, Nat.reduceLT, Int.reduceEq, Int.reduceBEq, Int.reduceLE, Int.reduceLT, Nat.reduceAdd, Nat.reduceBEq, Nat.reduceEqDiff, reduceIte, Nat.reduceLeDiff, Nat.reduceMul, Nat.reduceSub, reduceCtorEq, frzRes, dFrz, frzCells, isRet_ret, tupleOf]
            exact isNew_mk HBV.out
      · cases h
    · cases h
  · cases h
end Go.AM
set_option linter.unusedSimpArgs false
set_option linter.unusedVariables false
set_option linter.unusedSectionVars false
namespace Go.AM
open Go
variable [Keep]
section
variable {X : Ctx} {ops : Array Oper} {K P : AV → Fr → Prop} {F : Fr} {d : Option Tmp} {T : TypeId} {p : String} {af : Array Edge}
theorem WO1.appendK {args : Array Operand} {at_ : Array TypeId} {t u e e' : TypeId} {tl : List TypeId} {sz : Nat} {y : AV} {l : List AV} (hargs : F.opvs args.toList = some [.nilslice, y]) (ht : at_.toList = t :: u :: tl) (hu : X.P.underlying u = some (.slice e'))
    (hel : elemT X.P t = some e) (hs : szT X.P e = sz) (hrow : rowable X.P e = true) (hy : F.hp.elems y = some l) (hsz : ∀ v ∈ l, v.cells.length = sz) (hlen : l.length ≤ most)
    (h : ∀ v' h', BltN F.hp.next h' v' sz l → outV (some v') = some v' → (F.hp.next ≤ h'.next ∧ ∀ id, id < F.hp.next → h'.get id = F.hp.get id) → K v' (({ F with hp := h' } : Fr).put d v')) : WO1 X ops ⟨d, .call ⟨.builtin .append, args, at_⟩, T, p, af, none⟩ F K P := by
  subst hs
  have h1 : (l.all fun v => v.cells.length == szT X.P e) = true := List.all_eq_true.2 fun v hv => by simpa using hsz v hv
  by_cases hl : l = []
  · subst hl
    refine U5 (v := .nilslice) (F' := F) rfl (fun cl rd => ?_) ?_
    · simp only [efV, Fr.callOp, Fr.builtinE, Fr.appendE, ht, hargs, hu]
      have e1 : appendV X.P F t .nilslice [] = some (.nilslice, F) := by simp [appendV, hel, hrow]
      cases y <;> first | (simp only [hy, e1, okO]; done) | simp [Heap.elems] at hy
    · exact h .nilslice F.hp BltN.nil rfl ⟨Nat.le_refl _, fun _ _ => rfl⟩
  · have h2 : ¬ l.length = 0 := by simpa using hl
    have e1 : appendV X.P F t .nilslice l = some (.row F.hp.next 0 l.length, { F with hp := F.hp.new (.rw (szT X.P e) l) }) := by simp [appendV, hel, h1, hrow, hlen, h2, hl]
    refine U5 (v := .row F.hp.next 0 l.length) (F' := { F with hp := F.hp.new (.rw (szT X.P e) l) }) rfl (fun cl rd => ?_) (h _ _ (.inr ⟨F.hp.next, rfl, by rw [Heap.get_new, if_pos rfl], Nat.le_refl _, Nat.lt_succ_self _, hl⟩) rfl ⟨Nat.le_succ _, fun id hid => by rw [Heap.get_new, if_neg (by omega)]⟩)
    simp only [efV, Fr.callOp, Fr.builtinE, Fr.appendE, ht, hargs, hu]
    cases y <;> first | (simp only [hy, e1, okO]; done) | simp [Heap.elems] at hy
end
section
variable {X : Ctx} {f : FuncId} {ops : Array Oper} {ts : List (Nat × Trace)} {i k j : Nat} {r : List (Nat × Nat)} {x y o : Oper} {d : Option Tmp} {op : Op} {T : TypeId} {ps : String} {af : Array Edge} {want b : Bool} {s : Tmp}
    {f1 f2 : FuncId} {r1 r2 : Bool} {e1 e2 : Mp AV} {lm1 lm2 : Mp (Nat × List AV)} {hp1 hp2 : Heap} {df1 df2 : List (AV × List AV)} {up1 up2 : Option (AV × Bool)} {v1 v2 : AV} {a1 a2 b2 : Fr}
theorem calmR (h1 : ops[i]? = some ⟨d, op, T, ps, af, none⟩) (h2 : ops[k]? = some y) (h3 : traceOf ts i = some ⟨Fr.mk f1 r1 e1 lm1 hp1 df1 up1, v1, a1⟩) (h4 : traceOf ts k = some ⟨b2, v2, Fr.mk f2 r2 e2 lm2 hp2 df2 up2⟩)
    (h5 : isEffD X f ⟨d, op, T, ps, af, none⟩ = false) (h7 : rdV X (Fr.mk f1 r1 e1 lm2 hp2 df1 up1) d op = some v1) (h8 : r.all (calmPair X f ops ts) = true) : ((i, k) :: r).all (calmPair X f ops ts) = true := by
  simp only [List.all_cons, h8, Bool.and_true, calmPair, h1, h2, h3, h4, h5, Bool.false_eq_true, if_false, rereads, wantedA, if_true, h7]
  exact AV.same_refl _
theorem calmE (h1 : ops[i]? = some x) (h2 : ops[k]? = some ⟨d, op, T, ps, af, none⟩) (h3 : traceOf ts i = some ⟨Fr.mk f1 r1 e1 lm1 hp1 df1 up1, v1, a1⟩) (h4 : traceOf ts k = some ⟨Fr.mk f2 r2 e2 lm2 hp2 df2 up2, v2, a2⟩)
    (h5 : isEffD X f x = true) (h7 : rdV X (Fr.mk f2 r2 e2 lm1 hp1 df2 up2) d op = some v2) (h8 : r.all (calmPair X f ops ts) = true) : ((i, k) :: r).all (calmPair X f ops ts) = true := by
  simp only [List.all_cons, h8, Bool.and_true, calmPair, h1, h2, h3, h4, h5, if_true, rereads, wantedA, h7]
  exact AV.same_refl _
theorem calmEnd : ([] : List (Nat × Nat)).all (calmPair X f ops ts) = true := rfl
end
end Go.AM
set_option linter.unusedSectionVars false
set_option linter.unusedVariables false
set_option linter.unusedSimpArgs false
set_option maxRecDepth 100000
namespace Go.AM
open Go Go.Proofs
variable [Keep]
attribute [local irreducible] W WO WO1 WD WQ WT thenQ blockQ endR isRet retK Cl ClR
theorem eqh48 : Tryz.prog.stoodInHeld 48 = false := by kernel_rfl
theorem slLen_mk {a : AV} {es : List AV} (h : isSl a es) : slLen a = some es.length := by rcases h with ⟨rfl | rfl, rfl⟩ | rfl <;> rfl
end Go.AM
