/-
  DrillReached: for every machine the law returns true, and its argument reads behind the call as before. No condition but the row's own: the tables of Go's library that it lists hold what the program's text lays there.
-/
import Derived.Test.YtlhcjccaimmhgaaGreatDoorFnE
import Derived.Test.YtlhcjccaimmhgaaGreatDoorFnD
import Derived.Test.YtlhcjccaimmhgaaGreatDoorShared
import Derived.Test.YtlhcjccaimmhgaaGreatDoorHeadB
import Derived.Test.YtlhcjccaimmhgaaGreatDoorCards
set_option linter.unusedSimpArgs false
set_option linter.unusedVariables false
set_option linter.unusedSectionVars false
namespace Go.AM
open Go
variable [Keep]
def inS (n : Int) (s : Sp) : Prop := s.lo ≤ n ∧ n ≤ s.hi
theorem inS_inter {n : Int} {a b : Sp} (h1 : inS n a) (h2 : inS n b) : inS n (interS a b) := by
  unfold inS at *
  simp only [interS_lo, interS_hi]
  omega
theorem allS_in (n b : Int) : ∀ (L : List Lim) (s : Sp), (∀ m ∈ L, m.b = b → inS n m.sp) → inS n s → inS n (allS b L s) := by
  intro L
  induction L with
  | nil => intro s _ h; exact h
  | cons m r ih =>
    intro s hL h
    simp only [allS]
    split
    · rename_i hb
      exact ih _ (fun m' h' => hL m' (by simp [h'])) (inS_inter h (hL m (by simp) (by simpa using hb)))
    · exact ih _ (fun m' h' => hL m' (by simp [h'])) h
theorem lim_at {ax : Ax} {l : List Int} (hf : fitsA ax l = true) {k : Nat} : ∀ m ∈ ax.limits, m.b = (k : Int) → inS (l.getD k 0) m.sp := by
  intro m hm hb
  simp only [fitsA, Bool.and_eq_true] at hf
  have := List.all_eq_true.1 hf.2.2 m hm
  simp only [inL, inB, Bool.and_eq_true, decide_eq_true_eq, hb, Int.toNat_natCast] at this
  exact ⟨this.1, this.2⟩
theorem step_at {ax : Ax} {l : List Int} (hf : fitsA ax l = true) (hs : l.all okN = true) {k : Nat} (hk : k < 12) : ax.wear.lo ≤ l.getD (k + 1) 0 - l.getD k 0 ∧ l.getD (k + 1) 0 - l.getD k 0 ≤ ax.wear.hi := by
  simp only [fitsA, Bool.and_eq_true] at hf
  have := List.all_eq_true.1 hf.2.1 k (by simpa using hk)
  have a := num_small hs k
  have b := num_small hs (k + 1)
  have e : w64 (l.getD (k + 1) 0 - l.getD k 0) = l.getD (k + 1) 0 - l.getD k 0 := wrap_small (by omega) (by omega)
  simp only [stepB, inB, e, Bool.and_eq_true, decide_eq_true_eq] at this
  exact ⟨this.1, this.2⟩
theorem on_in {c w : Sp} {L : List Lim} (g : Good c w L) {l : List Int} (hf : fitsA ⟨c, w, L⟩ l = true) (hs : l.all okN = true) : ∀ k : Nat, k ≤ 12 → inS (l.getD k 0) (onS ⟨c, w, L⟩ k) := by
  intro k
  induction k with
  | zero =>
    intro _
    refine allS_in _ _ _ _ (lim_at hf (k := 0)) ?_
    have hf' := hf
    simp only [fitsA, inB, Bool.and_eq_true, decide_eq_true_eq] at hf'
    exact ⟨hf'.1.1, hf'.1.2⟩
  | succ k ih =>
    intro hk
    have h := ih (by omega)
    refine allS_in _ _ _ _ (lim_at hf (k := k + 1)) ?_
    obtain ⟨e1, e2⟩ := nxt_small g (by omega) (by omega) (on_bd g k (by omega))
    have hst := step_at hf hs (show k < 12 by omega)
    simp only [] at hst
    unfold inS at *
    rw [e1, e2]
    omega
def Amid (l : List Int) (out : List Sp) : Prop := out.length = 13 ∧ ∀ j : Nat, j ≤ 12 → inS (l.getD j 0) (out.getD j ⟨0, 0⟩) ∧ -1000 ≤ (out.getD j ⟨0, 0⟩).lo ∧ (out.getD j ⟨0, 0⟩).hi ≤ 1000
theorem back_in {c w : Sp} {L : List Lim} (g : Good c w L) {l : List Int} (hf : fitsA ⟨c, w, L⟩ l = true) (hs : l.all okN = true) : ∀ (n : Nat) (out : List Sp), n ≤ 12 → Amid l out → Amid l (backS ⟨c, w, L⟩ n out) := by
  intro n
  induction n with
  | zero => intro out _ h; exact h
  | succ n ih =>
    intro out hn h
    simp only [backS]
    refine ih _ (by omega) ⟨by simp [h.1], fun j hj => ?_⟩
    have w1 := g.w1
    have w2 := g.w2
    have w3 := g.w3
    have hm := h.2 (n + 1) (by omega)
    have hn1 := num_small hs (n + 1)
    have hst := step_at hf hs (show n < 12 by omega)
    simp only [] at hst
    by_cases hnj : n = j
    · subst hnj
      rw [getD_set_same (by rw [h.1]; omega)]
      have h0 := h.2 n (by omega)
      generalize out.getD (n + 1) ⟨0, 0⟩ = s at *
      generalize out.getD n ⟨0, 0⟩ = t at *
      have hm1 := hm.1
      have h01 := h0.1
      unfold inS at *
      have e1 : (prvS ⟨c, w, L⟩ s).lo = s.lo - w.hi := wrap_small (show -4611686018427387904 ≤ s.lo - w.hi by omega) (show s.lo - w.hi ≤ 4611686018427387904 by omega)
      have e2 : (prvS ⟨c, w, L⟩ s).hi = s.hi - w.lo := wrap_small (show -4611686018427387904 ≤ s.hi - w.lo by omega) (show s.hi - w.lo ≤ 4611686018427387904 by omega)
      simp only [interS_lo, interS_hi, e1, e2]
      omega
    · rw [getD_set_ne hnj]
      exact h.2 j hj
theorem on_list (ax : Ax) {k : Nat} (hk : k < 13) : ((List.range 13).map (onS ax)).getD k ⟨0, 0⟩ = onS ax k := by
  simp [List.getD, hk]
theorem bounds_good {c w : Sp} {L : List Lim} (g : Good c w L) : boundsS ⟨c, w, L⟩ = refS ⟨c, w, L⟩ := by
  have hc1 := g.c1
  have hc2 := g.c2
  have hc3 := g.c3
  have hw2 := g.w2
  have hw1 := g.w1
  have hw3 := g.w3
  refine bounds_ref ⟨c, w, L⟩ (by simp [empS]; omega) (fun k hk he => by
    obtain ⟨e1, e2⟩ := nxt_small g (by omega) (by omega) (on_bd g k (by omega))
    simp only [empS, decide_eq_false_iff_not] at *
    rw [e1, e2]
    omega)
theorem fits_within {c w : Sp} {L : List Lim} (g : Good c w L) {l : List Int} (hf : fitsA ⟨c, w, L⟩ l = true) (hs : l.all okN = true) : ∃ t, boundsS ⟨c, w, L⟩ = some t ∧ t.length = 13 ∧ ∀ j : Nat, j ≤ 12 → inS (l.getD j 0) (t.getD j ⟨0, 0⟩) := by
  have hM : Amid l (backS ⟨c, w, L⟩ 12 ((List.range 13).map (onS ⟨c, w, L⟩))) := by
    refine back_in g hf hs 12 _ (by omega) ⟨by simp, fun j hj => ?_⟩
    rw [on_list _ (by omega)]
    have := on_bd g j (by omega)
    exact ⟨on_in g hf hs j hj, by omega, by omega⟩
  rw [bounds_good g]
  unfold refS
  have hne : (backS ⟨c, w, L⟩ 12 ((List.range 13).map (onS ⟨c, w, L⟩))).any empS = false := by
    rw [List.any_eq_false]
    intro x hx
    obtain ⟨j, hj⟩ := List.mem_iff_getElem?.1 hx
    have hjl : j < 13 := by
      rcases Nat.lt_or_ge j 13 with h | h
      · exact h
      · rw [List.getElem?_eq_none (by rw [hM.1]; exact h)] at hj; cases hj
    have hg : (backS ⟨c, w, L⟩ 12 ((List.range 13).map (onS ⟨c, w, L⟩))).getD j ⟨0, 0⟩ = x := by simp [List.getD, hj]
    have := (hM.2 j (by omega)).1
    rw [hg] at this
    unfold inS at this
    simp only [empS, decide_eq_true_eq]
    omega
  rw [hne]
  exact ⟨_, rfl, hM.1, fun j hj => (hM.2 j hj).1⟩
theorem true_x {st : List Pt} {cx cy wx wy : Sp} {rs : List Rdg} {xs ys : List Int} (h : machB st cx cy wx wy rs = true) (ht : truthB xs ys = true) (hf : fitsM cx cy wx wy rs xs ys = true) : ∃ t, boundsS (ax0 cx wx rs []) = some t ∧ t.length = 13 ∧ ∀ j : Nat, j ≤ 12 → inS (xs.getD j 0) (t.getD j ⟨0, 0⟩) := by
  simp only [fitsM, Bool.and_eq_true] at hf
  have e : ax0 cx wx rs [] = ⟨cx, wx, lims155 rs⟩ := by simp [ax0]
  rw [e]
  exact fits_within (good_x h) hf.1 (truth_of ht).2.2.1
theorem true_y {st : List Pt} {cx cy wx wy : Sp} {rs : List Rdg} {xs ys : List Int} (h : machB st cx cy wx wy rs = true) (ht : truthB xs ys = true) (hf : fitsM cx cy wx wy rs xs ys = true) : ∃ t, boundsS (ax1 cy wy rs []) = some t ∧ t.length = 13 ∧ ∀ j : Nat, j ≤ 12 → inS (ys.getD j 0) (t.getD j ⟨0, 0⟩) := by
  simp only [fitsM, Bool.and_eq_true] at hf
  have e : ax1 cy wy rs [] = ⟨cy, wy, lims156 rs⟩ := by simp [ax1]
  rw [e]
  exact fits_within (good_y h) hf.2 (truth_of ht).2.2.2
end Go.AM
namespace Go.AM
open Go
variable [Keep]
theorem allS_sub (b : Int) : ∀ (L : List Lim) (s : Sp), s.lo ≤ (allS b L s).lo ∧ (allS b L s).hi ≤ s.hi := by
  intro L
  induction L with
  | nil => intro s; exact ⟨Int.le_refl _, Int.le_refl _⟩
  | cons m r ih =>
    intro s
    simp only [allS]
    split
    · have := ih (interS s m.sp)
      simp only [interS_lo, interS_hi] at this
      omega
    · exact ih s
theorem allS_lim (b : Int) : ∀ (L : List Lim) (s : Sp), ∀ m ∈ L, m.b = b → m.lo ≤ (allS b L s).lo ∧ (allS b L s).hi ≤ m.hi := by
  intro L
  induction L with
  | nil => intro s m h; simp at h
  | cons x r ih =>
    intro s m hm hb
    simp only [allS]
    rcases List.mem_cons.1 hm with rfl | hm
    · rw [if_pos (by simpa using hb)]
      have := allS_sub b r (interS s m.sp)
      simp only [interS_lo, interS_hi, Lim.sp] at this
      simp only [Lim.sp]
      omega
    · split
      · exact ih _ m hm hb
      · exact ih _ m hm hb
theorem on_lim (ax : Ax) (k : Nat) : ∀ m ∈ ax.limits, m.b = (k : Int) → m.lo ≤ (onS ax k).lo ∧ (onS ax k).hi ≤ m.hi := by
  intro m hm hb
  cases k with
  | zero => exact allS_lim _ _ _ m hm hb
  | succ k => exact allS_lim _ _ _ m hm hb
theorem back_eq (ax : Ax) : ∀ (n : Nat) (out : List Sp), n < out.length → ∀ j, j < n → (backS ax n out).getD j ⟨0, 0⟩ = interS (out.getD j ⟨0, 0⟩) (prvS ax ((backS ax n out).getD (j + 1) ⟨0, 0⟩)) := by
  intro n
  induction n with
  | zero => intro out _ j hj; omega
  | succ n ih =>
    intro out hn j hj
    simp only [backS]
    by_cases hjn : j < n
    · rw [ih _ (by simp; omega) j hjn, getD_set_ne (by omega)]
    · obtain rfl : j = n := by omega
      rw [back_keep _ _ _ _ (Nat.le_refl _), back_keep _ _ _ _ (by omega), getD_set_same (by omega), getD_set_ne (by omega)]
theorem any_not {l : List Sp} (h : l.any empS = false) {j : Nat} (hj : j < l.length) : (l.getD j ⟨0, 0⟩).lo ≤ (l.getD j ⟨0, 0⟩).hi := by
  have := List.any_eq_false.1 h l[j] (List.getElem_mem hj)
  simp only [empS, decide_eq_true_eq] at this
  simp [List.getD, hj]
  omega
structure Bnd (c w : Sp) (L : List Lim) (t : List Sp) : Prop where
  len : t.length = 13
  ne : ∀ j, j ≤ 12 → (t.getD j ⟨0, 0⟩).lo ≤ (t.getD j ⟨0, 0⟩).hi
  sub : ∀ j, j ≤ 12 → (onS ⟨c, w, L⟩ j).lo ≤ (t.getD j ⟨0, 0⟩).lo ∧ (t.getD j ⟨0, 0⟩).hi ≤ (onS ⟨c, w, L⟩ j).hi
  small : ∀ j, j ≤ 12 → -48 ≤ (t.getD j ⟨0, 0⟩).lo ∧ (t.getD j ⟨0, 0⟩).hi ≤ 48
  lo : ∀ j, j < 12 → (t.getD j ⟨0, 0⟩).lo = max (onS ⟨c, w, L⟩ j).lo ((t.getD (j + 1) ⟨0, 0⟩).lo - w.hi)
  hi : ∀ j, j < 12 → (t.getD j ⟨0, 0⟩).hi = min (onS ⟨c, w, L⟩ j).hi ((t.getD (j + 1) ⟨0, 0⟩).hi - w.lo)
theorem bnd_of {c w : Sp} {L : List Lim} (g : Good c w L) {t : List Sp} (ht : boundsS ⟨c, w, L⟩ = some t) : Bnd c w L t := by
  rw [bounds_good g] at ht
  unfold refS at ht
  split at ht
  · cases ht
  rename_i hne
  have hne : (backS ⟨c, w, L⟩ 12 ((List.range 13).map (onS ⟨c, w, L⟩))).any empS = false := by simpa using hne
  have ht := Option.some.inj ht
  have w1 := g.w1
  have w2 := g.w2
  have w3 := g.w3
  have hlen : t.length = 13 := by rw [← ht, back_len]; simp
  rw [ht] at hne
  have nep : ∀ j, j ≤ 12 → (t.getD j ⟨0, 0⟩).lo ≤ (t.getD j ⟨0, 0⟩).hi := fun j hj => any_not hne (by omega)
  have heq : ∀ j, j < 12 → t.getD j ⟨0, 0⟩ = interS (onS ⟨c, w, L⟩ j) (prvS ⟨c, w, L⟩ (t.getD (j + 1) ⟨0, 0⟩)) := fun j hj => by
    have := back_eq ⟨c, w, L⟩ 12 ((List.range 13).map (onS ⟨c, w, L⟩)) (by simp) j hj
    rw [ht, on_list _ (by omega)] at this
    exact this
  have hlast : t.getD 12 ⟨0, 0⟩ = onS ⟨c, w, L⟩ 12 := by
    have := back_keep ⟨c, w, L⟩ 12 ((List.range 13).map (onS ⟨c, w, L⟩)) 12 (Nat.le_refl _)
    rw [ht, on_list _ (by omega)] at this
    exact this
  have sub : ∀ j, j ≤ 12 → (onS ⟨c, w, L⟩ j).lo ≤ (t.getD j ⟨0, 0⟩).lo ∧ (t.getD j ⟨0, 0⟩).hi ≤ (onS ⟨c, w, L⟩ j).hi := fun j hj => by
    rcases Nat.lt_or_ge j 12 with q | q
    · rw [heq j q]
      simp only [interS_lo, interS_hi]
      omega
    · obtain rfl : j = 12 := by omega
      rw [hlast]
      omega
  have small : ∀ j, j ≤ 12 → -48 ≤ (t.getD j ⟨0, 0⟩).lo ∧ (t.getD j ⟨0, 0⟩).hi ≤ 48 := fun j hj => by
    have := on_bd g j (by omega)
    have := sub j hj
    omega
  have prv : ∀ j, j < 12 → (prvS ⟨c, w, L⟩ (t.getD (j + 1) ⟨0, 0⟩)).lo = (t.getD (j + 1) ⟨0, 0⟩).lo - w.hi ∧ (prvS ⟨c, w, L⟩ (t.getD (j + 1) ⟨0, 0⟩)).hi = (t.getD (j + 1) ⟨0, 0⟩).hi - w.lo := fun j hj => by
    have q := small (j + 1) (by omega)
    have e := nep (j + 1) (by omega)
    generalize t.getD (j + 1) ⟨0, 0⟩ = s at *
    exact ⟨wrap_small (show -4611686018427387904 ≤ s.lo - w.hi by omega) (show s.lo - w.hi ≤ 4611686018427387904 by omega), wrap_small (show -4611686018427387904 ≤ s.hi - w.lo by omega) (show s.hi - w.lo ≤ 4611686018427387904 by omega)⟩
  refine ⟨hlen, nep, sub, small, fun j hj => ?_, fun j hj => ?_⟩
  · rw [congrArg Sp.lo (heq j hj), interS_lo, (prv j hj).1]
  · rw [congrArg Sp.hi (heq j hj), interS_hi, (prv j hj).2]
def endsL (e : Sp → Int) (t : List Sp) : List Int := (List.range 13).map fun j => e (t.getD j ⟨0, 0⟩)
theorem ends_get (e : Sp → Int) (t : List Sp) {j : Nat} (hj : j < 13) : (endsL e t).getD j 0 = e (t.getD j ⟨0, 0⟩) := by
  simp [endsL, List.getD, hj]
theorem on_nxt {c w : Sp} {L : List Lim} (g : Good c w L) {j : Nat} (hj : j < 12) : (onS ⟨c, w, L⟩ j).lo + w.lo ≤ (onS ⟨c, w, L⟩ (j + 1)).lo ∧ (onS ⟨c, w, L⟩ (j + 1)).hi ≤ (onS ⟨c, w, L⟩ j).hi + w.hi := by
  have h1 := allS_sub ((j + 1 : Nat) : Int) L (nxtS ⟨c, w, L⟩ (onS ⟨c, w, L⟩ j))
  obtain ⟨e1, e2⟩ := nxt_small g (by omega) (by omega) (on_bd g j (by omega))
  rw [e1, e2] at h1
  exact h1
theorem ends_fit {c w : Sp} {L : List Lim} (g : Good c w L) (hL : ∀ m ∈ L, 0 ≤ m.b ∧ m.b ≤ 12) {t : List Sp} (b : Bnd c w L t) (e : Sp → Int) (he : (∀ s, e s = s.lo) ∨ (∀ s, e s = s.hi)) : fitsA ⟨c, w, L⟩ (endsL e t) = true := by
  have w1 := g.w1
  have w2 := g.w2
  have w3 := g.w3
  have val : ∀ j, j ≤ 12 → (t.getD j ⟨0, 0⟩).lo ≤ e (t.getD j ⟨0, 0⟩) ∧ e (t.getD j ⟨0, 0⟩) ≤ (t.getD j ⟨0, 0⟩).hi := fun j hj => by
    have := b.ne j hj
    rcases he with he | he <;> rw [he] <;> omega
  simp only [fitsA, Bool.and_eq_true]
  refine ⟨?_, List.all_eq_true.2 fun k hk => ?_, List.all_eq_true.2 fun m hm => ?_⟩
  · rw [ends_get e t (by omega)]
    have h1 := val 0 (by omega)
    have h2 := b.sub 0 (by omega)
    have h3 := allS_sub 0 L c
    have h4 : onS ⟨c, w, L⟩ 0 = allS 0 L c := rfl
    rw [h4] at h2
    simp only [inB, Bool.and_eq_true, decide_eq_true_eq]
    omega
  · have hk : k < 12 := by simpa using hk
    simp only [stepB]
    rw [ends_get e t (by omega), ends_get e t (by omega)]
    have h1 := b.small k (by omega)
    have h2 := b.small (k + 1) (by omega)
    have h3 := val k (by omega)
    have h4 := val (k + 1) (by omega)
    have h5 := b.lo k hk
    have h6 := b.hi k hk
    have h7 := b.sub (k + 1) (by omega)
    have h8 := on_nxt g hk
    have hw : w64 (e (t.getD (k + 1) ⟨0, 0⟩) - e (t.getD k ⟨0, 0⟩)) = e (t.getD (k + 1) ⟨0, 0⟩) - e (t.getD k ⟨0, 0⟩) := wrap_small (by omega) (by omega)
    rw [hw]
    simp only [inB, Bool.and_eq_true, decide_eq_true_eq]
    rcases he with he | he <;> simp only [he] at * <;> omega
  · have hb := hL m hm
    have hm2 : m.b = (m.b.toNat : Int) := by omega
    have h1 := on_lim ⟨c, w, L⟩ m.b.toNat m hm hm2
    simp only [inL]
    rw [ends_get e t (by omega)]
    have h2 := val m.b.toNat (by omega)
    have h3 := b.sub m.b.toNat (by omega)
    simp only [inB, Bool.and_eq_true, decide_eq_true_eq]
    omega
theorem ends_ok {c w : Sp} {L : List Lim} {t : List Sp} (b : Bnd c w L t) (e : Sp → Int) (he : (∀ s, e s = s.lo) ∨ (∀ s, e s = s.hi)) : (endsL e t).length = 13 ∧ (endsL e t).all okN = true := by
  refine ⟨by simp [endsL], List.all_eq_true.2 fun x hx => ?_⟩
  obtain ⟨j, hj, rfl⟩ := List.mem_map.1 hx
  have hj : j < 13 := by simpa using hj
  have h1 := b.small j (by omega)
  have h2 := b.ne j (by omega)
  simp only [okN, inB, Bool.and_eq_true, decide_eq_true_eq]
  rcases he with he | he <;> simp only [he] <;> omega
theorem ends_true {t u : List Sp} {cx cy wx wy : Sp} {L M : List Lim} (b : Bnd cx wx L t) (b2 : Bnd cy wy M u) (e f : Sp → Int) (he : (∀ s, e s = s.lo) ∨ (∀ s, e s = s.hi)) (hf : (∀ s, f s = s.lo) ∨ (∀ s, f s = s.hi)) : truthB (endsL e t) (endsL f u) = true := by
  obtain ⟨h1, h2⟩ := ends_ok b e he
  obtain ⟨h3, h4⟩ := ends_ok b2 f hf
  simp [truthB, h1, h2, h3, h4]
theorem ends_mach {st : List Pt} {cx cy wx wy : Sp} {rs : List Rdg} (h : machB st cx cy wx wy rs = true) {t u : List Sp} (ht : boundsS (ax0 cx wx rs []) = some t) (hu : boundsS (ax1 cy wy rs []) = some u) (e f : Sp → Int) (he : (∀ s, e s = s.lo) ∨ (∀ s, e s = s.hi)) (hf : (∀ s, f s = s.lo) ∨ (∀ s, f s = s.hi)) :
    truthB (endsL e t) (endsL f u) = true ∧ fitsM cx cy wx wy rs (endsL e t) (endsL f u) = true := by
  have e1 : ax0 cx wx rs [] = ⟨cx, wx, lims155 rs⟩ := by simp [ax0]
  have e2 : ax1 cy wy rs [] = ⟨cy, wy, lims156 rs⟩ := by simp [ax1]
  rw [e1] at ht
  rw [e2] at hu
  have b1 := bnd_of (good_x h) ht
  have b2 := bnd_of (good_y h) hu
  have hr := mach_rdg h
  refine ⟨ends_true b1 b2 e f he hf, ?_⟩
  simp only [fitsM, Bool.and_eq_true]
  refine ⟨ends_fit (good_x h) (fun m hm => ?_) b1 e he, ends_fit (good_y h) (fun m hm => ?_) b2 f hf⟩
  · obtain ⟨p, hp, rfl⟩ := List.mem_map.1 hm
    have := rdg_of (hr p hp)
    exact ⟨this.1, this.2.1⟩
  · obtain ⟨p, hp, rfl⟩ := List.mem_map.1 hm
    have := rdg_of (hr p hp)
    exact ⟨this.1, this.2.1⟩
end Go.AM
set_option maxRecDepth 100000
namespace Go.AM
open Go Go.Proofs
variable [Keep]
attribute [local irreducible] W WO WO1 WD WQ WT thenQ blockQ endR isRet retK Cl ClR
attribute [local irreducible] boundsS machB fitsM truthB
noncomputable def c18 : FuncId → Option (List AV → Heap → Option (AV × Heap))
  | 38 => some (pureFn sp38)
  | 39 => some (pureFn sp39)
  | 71 => some (flatFn sp71)
  | 73 => some (flatFnD sp73)
  | 77 => some (pureFn sp77)
  | f => c25 cK f
theorem viewV_pur {h : Heap} {a : AV} (e : a.pur = true) : viewV h a = some a := by
  unfold viewV
  split
  · simp [AV.pur] at e
  · simp [e]
theorem K73D {X : Ctx} (hX : X.intr 73 = some (flatFnD sp73)) (sa ra : AV) (cx cy wx wy : Sp) (st : List Pt) (rs : List Rdg) (v1 : slV ptC sa = some st) (v2 : slV rdgC ra = some rs) (xs ys : List Int) (ux uy : AV) (h : Heap) (b1 : Blt h ux 1 (xs.map intC.enc)) (b2 : Blt h uy 1 (ys.map intC.enc)) (hx : xs.length ≤ maxL) (hy : ys.length ≤ maxL) :
    Cl X 73 [.agg [sa, .int .i64 cx.lo, .int .i64 cx.hi, .int .i64 cy.lo, .int .i64 cy.hi, .int .i64 wx.lo, .int .i64 wx.hi, .int .i64 wy.lo, .int .i64 wy.hi, ra], .agg [ux, uy]] h (.ret (fitV (machB st cx cy wx wy rs && truthB xs ys) (fitsM cx cy wx wy rs xs ys)) h none) :=
  Cl.intr hX (by
    have e1 := b1.view (enc_pur intC xs)
    have e2 := b2.view (enc_pur intC ys)
    have e3 := viewV_pur (h := h) (sl_pur v1)
    have e4 := viewV_pur (h := h) (sl_pur v2)
    have e5 : ∀ n, viewV h (.int .i64 n) = some (.int .i64 n) := fun _ => rfl
    have s1 := slV_slN (c := intC) hx
    have s2 := slV_slN (c := intC) hy
    simp [flatFnD, viewDs, viewD, viewVs, e1, e2, e3, e4, e5, sp73, v1, v2, s1, s2])
set_option maxHeartbeats 8000000 in
theorem T18 (sa ra : AV) (cx cy wx wy : Sp) (st : List Pt) (rs : List Rdg) (hs : isSl sa (st.map ptC.enc)) (hr : isSl ra (rs.map rdgC.enc)) :
    ClR (dX c18) 18 [.agg [sa, .int .i64 cx.lo, .int .i64 cx.hi, .int .i64 cy.lo, .int .i64 cy.hi, .int .i64 wx.lo, .int .i64 wx.hi, .int .i64 wy.lo, .int .i64 wy.hi, ra]] emptyHp (isRet (.bool true)) := by
  have hp1 := hs.pur (enc_pur ptC st)
  have hp2 := hr.pur (enc_pur rdgC rs)
  have o1 := hs.out
  have o2 := hr.out
  have t1 := hs.tup
  have t2 := hr.tup
  have k25 : ∀ h, Cl (dX c18) 25 [] h (.ret (.bool true) h none) := fun h => K25 rfl h
  have K38 : ∀ h, Cl (dX c18) 38 [.agg [sa, .int .i64 cx.lo, .int .i64 cx.hi, .int .i64 cy.lo, .int .i64 cy.hi, .int .i64 wx.lo, .int .i64 wx.hi, .int .i64 wy.lo, .int .i64 wy.hi, ra]] h (.ret (.bool (decide ((st.length : Int) ≤ 6) && decide ((rs.length : Int) ≤ 6))) h none) := fun h => by
    have h1 := slLen_mk hs
    have h2 := slLen_mk hr
    exact Cl.intr (g := pureFn sp38) rfl (by simp [pureFn, AV.pur, AV.purL, hp1, hp2, sp38, h1, h2])
  have n00 : ((0 : Int) != 0) = false := rfl
  have n77 : ((7 : Int) != 7) = false := rfl
  have n70 : ((7 : Int) != 0) = true := rfl
  have e00 : ((0 : Int) == 0) = true := rfl
  have bt : (true && true) = true := rfl
  by_cases hsl : decide ((st.length : Int) ≤ 6) && decide ((rs.length : Int) ≤ 6)
  · have hsl2 : (decide ((st.length : Int) ≤ 6) && decide ((rs.length : Int) ≤ 6)) = true := hsl
    have k38 := K38
    rw [hsl2] at k38
    simp only [Bool.and_eq_true, decide_eq_true_eq] at hsl2
    have v1 : slV ptC sa = some st := slV_mk hs (by unfold maxL; omega)
    have v2 : slV rdgC ra = some rs := slV_mk hr (by unfold maxL; omega)
    have k71 : ∀ h, Cl (dX c18) 71 [.agg [sa, .int .i64 cx.lo, .int .i64 cx.hi, .int .i64 cy.lo, .int .i64 cy.hi, .int .i64 wx.lo, .int .i64 wx.hi, .int .i64 wy.lo, .int .i64 wy.hi, ra]] h (.ret (.bool (machB st cx cy wx wy rs)) h none) := fun h => by
      have := K71 (X := dX c18) rfl sa ra st rs cx cy wx wy v1 v2 h
      rw [machR_B] at this
      exact this
    have hmain : machB st cx cy wx wy rs = true → ∃ (er : Int) (fx fy : Nat → Sp), (er = 0 ∨ er = 7) ∧
        (∀ n, n ≤ 12 → ∀ h, Cl (dX c18) 39 [.agg [sa, .int .i64 cx.lo, .int .i64 cx.hi, .int .i64 cy.lo, .int .i64 cy.hi, .int .i64 wx.lo, .int .i64 wx.hi, .int .i64 wy.lo, .int .i64 wy.hi, ra], .int .i64 (n : Nat)] h (.ret (.tuple [.agg [.int .i64 (fx n).lo, .int .i64 (fx n).hi], .agg [.int .i64 (fy n).lo, .int .i64 (fy n).hi], .int .i64 er]) h none)) ∧
        (∀ h, Cl (dX c18) 77 [.agg [sa, .int .i64 cx.lo, .int .i64 cx.hi, .int .i64 cy.lo, .int .i64 cy.hi, .int .i64 wx.lo, .int .i64 wx.hi, .int .i64 wy.lo, .int .i64 wy.hi, ra]] h (.ret (.int .i64 er) h none)) ∧
        (er = 0 → ∀ (ux uy : AV) (h : Heap), Blt h ux 1 (((List.range 13).map fun j => (fx j).lo).map intC.enc) → Blt h uy 1 (((List.range 13).map fun j => (fy j).hi).map intC.enc) → Cl (dX c18) 73 [.agg [sa, .int .i64 cx.lo, .int .i64 cx.hi, .int .i64 cy.lo, .int .i64 cy.hi, .int .i64 wx.lo, .int .i64 wx.hi, .int .i64 wy.lo, .int .i64 wy.hi, ra], .agg [ux, uy]] h (.ret (.tuple [.bool true, .int .i64 0]) h none)) ∧
        (er = 0 → ∀ (ux uy : AV) (h : Heap), Blt h ux 1 (((List.range 13).map fun j => (fx j).hi).map intC.enc) → Blt h uy 1 (((List.range 13).map fun j => (fy j).lo).map intC.enc) → Cl (dX c18) 73 [.agg [sa, .int .i64 cx.lo, .int .i64 cx.hi, .int .i64 cy.lo, .int .i64 cy.hi, .int .i64 wx.lo, .int .i64 wx.hi, .int .i64 wy.lo, .int .i64 wy.hi, ra], .agg [ux, uy]] h (.ret (.tuple [.bool true, .int .i64 0]) h none)) := by
      intro hok
      have K39' : ∀ (blank : Int) h, Cl (dX c18) 39 [.agg [sa, .int .i64 cx.lo, .int .i64 cx.hi, .int .i64 cy.lo, .int .i64 cy.hi, .int .i64 wx.lo, .int .i64 wx.hi, .int .i64 wy.lo, .int .i64 wy.hi, ra], .int .i64 blank] h (.ret (knownV (machB st cx cy wx wy rs) (boundsS (ax0 cx wx rs [])) (boundsS (ax1 cy wy rs [])) blank) h none) := fun blank h =>
        Cl.intr (g := pureFn sp39) rfl (by simp [pureFn, AV.pur, AV.purL, hp1, hp2, sp39, v1, v2])
      have K77' : ∀ h, Cl (dX c18) 77 [.agg [sa, .int .i64 cx.lo, .int .i64 cx.hi, .int .i64 cy.lo, .int .i64 cy.hi, .int .i64 wx.lo, .int .i64 wx.hi, .int .i64 wy.lo, .int .i64 wy.hi, ra]] h (.ret (.int .i64 (ableI (machB st cx cy wx wy rs) ((boundsS (ax0 cx wx rs [])).isSome && (boundsS (ax1 cy wy rs [])).isSome))) h none) := fun h =>
        Cl.intr (g := pureFn sp77) rfl (by simp [pureFn, AV.pur, AV.purL, hp1, hp2, sp77, v1, v2])
      have hin : ∀ n : Nat, n ≤ 12 → inB (n : Int) 0 12 = true := fun n hn => by simp only [inB, Bool.and_eq_true, decide_eq_true_eq]; omega
      have hE := fun (a b : List Sp) (ha : boundsS (ax0 cx wx rs []) = some a) (hb : boundsS (ax1 cy wy rs []) = some b) => ends_mach hok ha hb
      have hK := fun (xs ys : List Int) (ux uy : AV) (h : Heap) b1 b2 (hx : xs.length ≤ maxL) (hy : ys.length ≤ maxL) => K73D (X := dX c18) rfl sa ra cx cy wx wy st rs v1 v2 xs ys ux uy h b1 b2 hx hy
      rw [hok] at K39' K77' hK
      generalize boundsS (ax0 cx wx rs []) = A at *
      generalize boundsS (ax1 cy wy rs []) = B at *
      by_cases hAB : A.isSome && B.isSome
      · obtain ⟨a, rfl⟩ : ∃ a, A = some a := by cases A with | none => simp at hAB | some a => exact ⟨a, rfl⟩
        obtain ⟨b, rfl⟩ : ∃ b, B = some b := by cases B with | none => simp at hAB | some a => exact ⟨a, rfl⟩
        refine ⟨0, fun n => a.getD n ⟨0, 0⟩, fun n => b.getD n ⟨0, 0⟩, .inl rfl, fun n hn h => ?_, fun h => ?_, fun _ ux uy h b1 b2 => ?_, fun _ ux uy h b1 b2 => ?_⟩
        · have := K39' n h
          simpa [knownV, hin n hn, spC] using this
        · have := K77' h
          simpa [ableI] using this
        · obtain ⟨q1, q2⟩ := hE a b rfl rfl (fun s => s.lo) (fun s => s.hi) (.inl fun _ => rfl) (.inr fun _ => rfl)
          have := hK (endsL (fun s => s.lo) a) (endsL (fun s => s.hi) b) ux uy h b1 b2 (by simp [endsL, maxL]) (by simp [endsL, maxL])
          rw [q1, q2] at this
          exact this
        · obtain ⟨q1, q2⟩ := hE a b rfl rfl (fun s => s.hi) (fun s => s.lo) (.inr fun _ => rfl) (.inl fun _ => rfl)
          have := hK (endsL (fun s => s.hi) a) (endsL (fun s => s.lo) b) ux uy h b1 b2 (by simp [endsL, maxL]) (by simp [endsL, maxL])
          rw [q1, q2] at this
          exact this
      · have hAB : (A.isSome && B.isSome) = false := by simpa using hAB
        refine ⟨7, fun _ => ⟨0, 0⟩, fun _ => ⟨0, 0⟩, .inr rfl, fun n hn h => ?_, fun h => ?_, fun e => absurd e (by decide), fun e => absurd e (by decide)⟩
        · have hk : knownV true A B n = .tuple [.agg [.int .i64 0, .int .i64 0], .agg [.int .i64 0, .int .i64 0], .int .i64 7] := by
            unfold knownV
            rw [hin n hn]
            simp only [Bool.and_self, if_true]
            cases A <;> cases B <;> first | rfl | simp at hAB
          have := K39' n h
          rw [hk] at this
          exact this
        · have := K77' h
          simpa only [ableI, hAB, Bool.false_eq_true, if_false, if_true] using this
    clear hs hr hp1 hp2 v1 v2 hsl hsl2 K38
    generalize machB st cx cy wx wy rs = ok at *
    cases ok with
    | false =>
      clear hmain
      refine ClR.walk (c := _) rfl Tryz.func18 rfl (by kernel_rfl) rfl isRet_fail ?_
      simp only [entryEnv, Nat.reduceAdd]
      repeat' (first | (refine ⟨⟨trivial, trivial⟩, ?_⟩) | (refine ⟨⟨rfl, rfl⟩, ?_⟩) | (refine WQ.cons rfl rfl ?_) | (refine WT.cons rfl rfl ?_) | (refine WQ.nil ?_) | (refine WT.nil ?_; simp only [tN, bN, eN, true_and]) | (apply WQ.alloc; exact rfl; exact rfl; exact payR; simp only [pM, pN]) | refine W.seq ?_ | refine W.region ?_ | refine W.block ?_ | refine W.scope ?_ | refine WO.cons ?_ | (refine WO.nil ?_; simp only [tN, bN, eN, true_and]) | (apply WO1.rd; exact payR; exact rfl; simp only [pM, pN, rR, rP]) | (refine WO1.gyes (b := true) rfl rfl ?_ rfl ?_; exact payD) | (refine WO1.gno (b := true) rfl rfl ?_ rfl ?_; exact payD; simp only [pM, pN, rR, rP]) | (refine WO1.gyes (b := false) rfl rfl ?_ rfl ?_; exact payD) | (refine WO1.gno (b := false) rfl rfl ?_ rfl ?_; exact payD; simp only [pM, pN, rR, rP]) | (apply WO1.gsplit; exact rfl; exact rfl; exact payR; refine ⟨fun hh => ?_, fun hh => ?_⟩ <;> try simp only [Bool.not_true, Bool.not_false, pM, pN] at hh ⊢) | (apply WO1.call; exact payR; exact payR; (focus (simp only [List.nil_append, List.append_nil]; first | exact k25 _ | exact k38 _ | exact k71 _)); simp only [pM, pN, rR, rP]) | (apply WO1.ef; exact rfl; exact payE; simp only [pM, pN, rR, rP]) | (simp only [tP, bP, eP, true_and]) | (refine W.ret ?_; simp only [tR, bR, eR, true_and]) | (refine W.skip ?_; simp only [tN, bN, eN, true_and]) | (refine W.exit ?_; simp only [tX, bS, bO, Nat.reduceBEq, tN, bN]) | (refine W.condT ?_ ?_; exact payD) | (refine W.condF ?_ ?_; exact payD) | (apply W.condB; exact payR; refine ⟨fun hh => ?_, fun hh => ?_⟩))
      all_goals simp only [resV_def (X := dX c18) Tryz.func18, Tryz.results18, resultsV, resultV, go_sem, *, Nat.reduceLT, Int.reduceEq, Int.reduceBEq, Int.reduceLE, Int.reduceLT, Nat.reduceAdd, Nat.reduceBEq, Nat.reduceEqDiff, reduceIte, Nat.reduceLeDiff, Nat.reduceMul, Nat.reduceSub, reduceCtorEq, frzRes, dFrz, frzCells, isRet_ret, tupleOf]
    | true =>
      obtain ⟨er, fx, fy, hER, K39', k77, hfa, hfb⟩ := hmain rfl
      have HKA := Lib.hid hfa
      have HKB := Lib.hid hfb
      have HK39 := Lib.hid K39'
      have HER := Lib.hid hER
      clear hmain hfa hfb K39' hER
      refine ClR.walk (c := _) rfl Tryz.func18 rfl (by kernel_rfl) rfl isRet_fail ?_
      simp only [entryEnv, Nat.reduceAdd]
      repeat' (first | (refine ⟨⟨trivial, trivial⟩, ?_⟩) | (refine ⟨⟨rfl, rfl⟩, ?_⟩) | (refine WQ.cons rfl rfl ?_) | (refine WT.cons rfl rfl ?_) | (refine WQ.nil ?_) | (refine WT.nil ?_; simp only [tN, bN, eN, true_and]) | (apply WQ.alloc; exact rfl; exact rfl; exact payR; simp only [pM, pN]) | refine W.seq ?_ | refine W.region ?_ | refine W.block ?_ | refine W.scope ?_ | refine WO.cons ?_ | (refine WO.nil ?_; simp only [tN, bN, eN, true_and]) | (apply WO1.rd; exact payR; exact rfl; simp only [pM, pN, rR, rP]) | (refine WO1.gyes (b := true) rfl rfl ?_ rfl ?_; exact payD) | (refine WO1.gno (b := true) rfl rfl ?_ rfl ?_; exact payD; simp only [pM, pN, rR, rP]) | (refine WO1.gyes (b := false) rfl rfl ?_ rfl ?_; exact payD) | (refine WO1.gno (b := false) rfl rfl ?_ rfl ?_; exact payD; simp only [pM, pN, rR, rP]) | (apply WO1.gsplit; exact rfl; exact rfl; exact payR; refine ⟨fun hh => ?_, fun hh => ?_⟩ <;> try simp only [Bool.not_true, Bool.not_false, pM, pN] at hh ⊢) | (apply WO1.call; exact payR; exact payR; (focus (simp only [List.nil_append, List.append_nil]; first | exact k38 _ | exact k71 _)); simp only [pM, pN, rR, rP]) | (apply WO1.ef; exact rfl; exact payE; simp only [pM, pN, rR, rP]) | (simp only [tP, bP, eP, true_and]) | (refine W.ret ?_; simp only [tR, bR, eR, true_and]) | (refine W.skip ?_; simp only [tN, bN, eN, true_and]) | (refine W.exit ?_; simp only [tX, bS, bO, Nat.reduceBEq, tN, bN]) | (refine W.condT ?_ ?_; exact payD) | (refine W.condF ?_ ?_; exact payD) | (apply W.condB; exact payR; refine ⟨fun hh => ?_, fun hh => ?_⟩))
      refine W.loopN 13 (fun i F => ∃ e lm hp ua ub uc ud, F = Fr.mk 18 false e lm hp [] none ∧ Four hp ua ub uc ud (((List.range i).map fun j => (fx j).lo).map intC.enc) (((List.range i).map fun j => (fy j).hi).map intC.enc) (((List.range i).map fun j => (fx j).hi).map intC.enc) (((List.range i).map fun j => (fy j).lo).map intC.enc) ∧ lm.get 1 = some (0, [sa, .int .i64 cx.lo, .int .i64 cx.hi, .int .i64 cy.lo, .int .i64 cy.hi, .int .i64 wx.lo, .int .i64 wx.hi, .int .i64 wy.lo, .int .i64 wy.hi, ra]) ∧ lm.get 3 = some (0, [ua, ub]) ∧ lm.get 4 = some (0, [uc, ud]) ∧ e.get 1 = some (.lptr 1 0 0) ∧ e.get 3 = some (.lptr 3 0 0) ∧ e.get 4 = some (.lptr 4 0 0) ∧ e.get 5 = some (.int .i64 ↑i) ∧ i ≤ 13) ?_ ?_
      · refine ⟨_, _, _, _, _, _, _, rfl, Four.nil, ?_, ?_, ?_, ?_, ?_, ?_, ?_, ?_⟩ <;> first | exact payD | simp [go_sem, *, Nat.reduceLT, Int.reduceEq, Int.reduceBEq, Int.reduceLE, Int.reduceLT, Nat.reduceAdd, Nat.reduceBEq, Nat.reduceEqDiff, reduceIte, Nat.reduceLeDiff, Nat.reduceMul, Nat.reduceSub, reduceCtorEq]
      rintro i F ⟨e, lm, hp, ua, ub, uc, ud, rfl, hF0, m1, m3, m4, h1, h3, h4, h5, hi⟩
      have oa := hF0.ba.out
      have ob := hF0.bb.out
      have oc := hF0.bc'.out
      have od := hF0.bd'.out
      have ca := hF0.ba.tup
      have cb := hF0.bb.tup
      have cc := hF0.bc'.tup
      have cd := hF0.bd'.tup
      simp only [isTuple] at ca cb cc cd
      by_cases hlt : i < 13
      · have K39 := HK39.out i (by omega)
        have hd : decide ((i : Int) ≤ 12) = true := by simp; omega
        have hll : i + (0 + 1) ≤ most := by unfold most; omega
        have hw := wrap_succ (m := 13) hlt (by unfold maxL; omega)
        have hr1 : ∀ f : Nat → Int, ((List.range (i + 1)).map f).map intC.enc = ((List.range i).map f).map intC.enc ++ [.int .i64 (f i)] := fun f => by rw [List.range_succ]; simp [intC]
        have HR := Lib.hid hr1
        clear hr1
        generalize hfx : fx i = sx at K39
        generalize hfy : fy i = sy at K39
        have HX := Lib.hid hfx
        have HY := Lib.hid hfy
        clear hfx hfy
        rcases HER.out with rfl | rfl
        all_goals (
          repeat' (first | (apply WO1.appendE (t := 39) (u := 39) (e := 3) (e' := 3) (sz := 1) (tl := []) (hb := hF0.ba); exact payR; exact rfl; exact payD; exact payD; exact payD; (focus (exact ty_row39)); exact payR; (focus (intro v hv; simp at hv; subst hv; rfl)); (focus (simp only [List.length_map, List.length_range, List.length_cons, List.length_nil]; exact hll)); (focus (simp)); (intro v1 p1 hB1 ho1 hK1 hE1; have hF1 := hF0.one hB1 hK1 hE1; have hc1 := hB1.cells; have ht1 := hB1.tup; simp only [AV.cells] at hc1; simp only [isTuple] at ht1; clear hE1 hK1; simp only [pM, pN])) | (apply WO1.appendE (t := 39) (u := 39) (e := 3) (e' := 3) (sz := 1) (tl := []) (hb := hF1.bb); exact payR; exact rfl; exact payD; exact payD; exact payD; (focus (exact ty_row39)); exact payR; (focus (intro v hv; simp at hv; subst hv; rfl)); (focus (simp only [List.length_map, List.length_range, List.length_cons, List.length_nil]; exact hll)); (focus (simp)); (intro v2 p2 hB2 ho2 hK2 hE2; have hF2 := hF1.two hB2 hK2 hE2; have hc2 := hB2.cells; have ht2 := hB2.tup; simp only [AV.cells] at hc2; simp only [isTuple] at ht2; clear hE2 hK2; simp only [pM, pN])) | (apply WO1.appendE (t := 39) (u := 39) (e := 3) (e' := 3) (sz := 1) (tl := []) (hb := hF2.bc'); exact payR; exact rfl; exact payD; exact payD; exact payD; (focus (exact ty_row39)); exact payR; (focus (intro v hv; simp at hv; subst hv; rfl)); (focus (simp only [List.length_map, List.length_range, List.length_cons, List.length_nil]; exact hll)); (focus (simp)); (intro v3 p3 hB3 ho3 hK3 hE3; have hF3 := hF2.three hB3 hK3 hE3; have hc3 := hB3.cells; have ht3 := hB3.tup; simp only [AV.cells] at hc3; simp only [isTuple] at ht3; clear hE3 hK3; simp only [pM, pN])) | (apply WO1.appendE (t := 39) (u := 39) (e := 3) (e' := 3) (sz := 1) (tl := []) (hb := hF3.bd'); exact payR; exact rfl; exact payD; exact payD; exact payD; (focus (exact ty_row39)); exact payR; (focus (intro v hv; simp at hv; subst hv; rfl)); (focus (simp only [List.length_map, List.length_range, List.length_cons, List.length_nil]; exact hll)); (focus (simp)); (intro v4 p4 hB4 ho4 hK4 hE4; have hF4 := hF3.four hB4 hK4 hE4; have hc4 := hB4.cells; have ht4 := hB4.tup; simp only [AV.cells] at hc4; simp only [isTuple] at ht4; clear hE4 hK4; simp only [pM, pN])) | (apply W.draw (id := 10) (lc := [0, 1, 2, 3, 4, 5, 6, 7, 8, 9, 10, 11, 12, 13, 14, 15]) (hot := [(5, 7), (5, 9)]); kernel_rfl; kernel_rfl; kernel_rfl; exact payP) | (apply W.draw (id := 11) (lc := [0, 1, 2, 3, 4, 5, 6, 7, 8, 9, 10, 11, 12, 13, 14, 15]) (hot := [(5, 7), (5, 9)]); kernel_rfl; kernel_rfl; kernel_rfl; exact payP) | (refine WD.nil ⟨?_, ?_⟩; rotate_left; simp only [tN, bN, eN, true_and]) | (refine WD.cons rfl rfl ?_) | (refine calm_eff rfl rfl rfl rfl rfl ?_ ?_; (focus (first | exact payD | exact payR))) | (with_reducible refine calm_nil) | (refine ⟨⟨trivial, trivial⟩, ?_⟩) | (refine ⟨⟨rfl, rfl⟩, ?_⟩) | (refine WQ.cons rfl rfl ?_) | (refine WT.cons rfl rfl ?_) | (refine WQ.nil ?_) | (refine WT.nil ?_; simp only [tN, bN, eN, true_and]) | (apply WQ.alloc; exact rfl; exact rfl; exact payR; simp only [pM, pN]) | refine W.seq ?_ | refine W.region ?_ | refine W.block ?_ | refine W.scope ?_ | refine WO.cons ?_ | (refine WO.nil ?_; simp only [tN, bN, eN, true_and]) | (apply WO1.rd; exact payR; exact rfl; simp only [pM, pN, rR, rP]) | (refine WO1.gyes (b := true) rfl rfl ?_ rfl ?_; exact payD) | (refine WO1.gno (b := true) rfl rfl ?_ rfl ?_; exact payD; simp only [pM, pN, rR, rP]) | (refine WO1.gyes (b := false) rfl rfl ?_ rfl ?_; exact payD) | (refine WO1.gno (b := false) rfl rfl ?_ rfl ?_; exact payD; simp only [pM, pN, rR, rP]) | (apply WO1.gsplit; exact rfl; exact rfl; exact payR; refine ⟨fun hh => ?_, fun hh => ?_⟩ <;> try simp only [Bool.not_true, Bool.not_false, pM, pN] at hh ⊢) | (apply WO1.call; exact payR; exact payR; (focus (simp only [List.nil_append, List.append_nil]; first | exact K39 _ | exact k77 _)); simp only [pM, pN, rR, rP]) | (apply WO1.ef; exact rfl; exact payE; simp only [pM, pN, rR, rP]) | (simp only [tP, bP, eP, true_and]) | (refine W.ret ?_; simp only [tR, bR, eR, true_and]) | (refine W.skip ?_; simp only [tN, bN, eN, true_and]) | (refine W.exit ?_; simp only [tX, bS, bO, Nat.reduceBEq, tN, bN]) | (refine W.condT ?_ ?_; exact payD) | (refine W.condF ?_ ?_; exact payD) | (apply W.condB; exact payR; refine ⟨fun hh => ?_, fun hh => ?_⟩))
          refine ⟨hlt, _, _, _, v1, v2, v3, v4, rfl, ?_, ?_, ?_, ?_, ?_, ?_, ?_, ?_, by omega⟩
          · rw [HR.out, HR.out, HR.out, HR.out, HX.out, HY.out]; exact hF4
          all_goals exact payD)
      · have hd : decide ((i : Int) ≤ 12) = false := by simp; omega
        obtain rfl : i = 13 := by omega
        have hfa : er = 0 → ∀ h, h = hp → Cl (dX c18) 73 [.agg [sa, .int .i64 cx.lo, .int .i64 cx.hi, .int .i64 cy.lo, .int .i64 cy.hi, .int .i64 wx.lo, .int .i64 wx.hi, .int .i64 wy.lo, .int .i64 wy.hi, ra], .agg [ua, ub]] h (.ret (.tuple [.bool true, .int .i64 0]) h none) := fun e h eh => by subst eh; exact HKA.out e ua ub h hF0.ba hF0.bb
        have hfb : er = 0 → ∀ h, h = hp → Cl (dX c18) 73 [.agg [sa, .int .i64 cx.lo, .int .i64 cx.hi, .int .i64 cy.lo, .int .i64 cy.hi, .int .i64 wx.lo, .int .i64 wx.hi, .int .i64 wy.lo, .int .i64 wy.hi, ra], .agg [uc, ud]] h (.ret (.tuple [.bool true, .int .i64 0]) h none) := fun e h eh => by subst eh; exact HKB.out e uc ud h hF0.bc' hF0.bd'
        rcases HER.out with rfl | rfl
        · have KA' := hfa rfl hp rfl
          have KB' := hfb rfl hp rfl
          have KA := Lib.hid KA'
          have KB := Lib.hid KB'
          clear hfa hfb KA' KB' hF0
          repeat' (first | (refine ⟨⟨trivial, trivial⟩, ?_⟩) | (refine ⟨⟨rfl, rfl⟩, ?_⟩) | (refine WQ.cons rfl rfl ?_) | (refine WT.cons rfl rfl ?_) | (refine WQ.nil ?_) | (refine WT.nil ?_; simp only [tN, bN, eN, true_and]) | (apply WQ.alloc; exact rfl; exact rfl; exact payR; simp only [pM, pN]) | refine W.seq ?_ | refine W.region ?_ | refine W.block ?_ | refine W.scope ?_ | refine WO.cons ?_ | (refine WO.nil ?_; simp only [tN, bN, eN, true_and]) | (apply WO1.rd; exact payR; exact rfl; simp only [pM, pN, rR, rP]) | (refine WO1.gyes (b := true) rfl rfl ?_ rfl ?_; exact payD) | (refine WO1.gno (b := true) rfl rfl ?_ rfl ?_; exact payD; simp only [pM, pN, rR, rP]) | (refine WO1.gyes (b := false) rfl rfl ?_ rfl ?_; exact payD) | (refine WO1.gno (b := false) rfl rfl ?_ rfl ?_; exact payD; simp only [pM, pN, rR, rP]) | (apply WO1.gsplit; exact rfl; exact rfl; exact payR; refine ⟨fun hh => ?_, fun hh => ?_⟩ <;> try simp only [Bool.not_true, Bool.not_false, pM, pN] at hh ⊢) | (apply WO1.call; exact payR; exact payR; (focus (simp only [List.nil_append, List.append_nil]; first | exact k25 _ | exact k77 _ | exact KA.out | exact KB.out)); simp only [pM, pN, rR, rP]) | (apply WO1.ef; exact rfl; exact payE; simp only [pM, pN, rR, rP]) | (simp only [tP, bP, eP, true_and]) | (refine W.ret ?_; simp only [tR, bR, eR, true_and]) | (refine W.skip ?_; simp only [tN, bN, eN, true_and]) | (refine W.exit ?_; simp only [tX, bS, bO, Nat.reduceBEq, tN, bN]) | (refine W.condT ?_ ?_; exact payD) | (refine W.condF ?_ ?_; exact payD) | (apply W.condB; exact payR; refine ⟨fun hh => ?_, fun hh => ?_⟩))
          all_goals simp only [resV_def (X := dX c18) Tryz.func18, Tryz.results18, resultsV, resultV, go_sem, *, Nat.reduceLT, Int.reduceEq, Int.reduceBEq, Int.reduceLE, Int.reduceLT, Nat.reduceAdd, Nat.reduceBEq, Nat.reduceEqDiff, reduceIte, Nat.reduceLeDiff, Nat.reduceMul, Nat.reduceSub, reduceCtorEq, frzRes, dFrz, frzCells, isRet_ret, tupleOf]
        · clear hfa hfb hF0
          repeat' (first | (refine ⟨⟨trivial, trivial⟩, ?_⟩) | (refine ⟨⟨rfl, rfl⟩, ?_⟩) | (refine WQ.cons rfl rfl ?_) | (refine WT.cons rfl rfl ?_) | (refine WQ.nil ?_) | (refine WT.nil ?_; simp only [tN, bN, eN, true_and]) | (apply WQ.alloc; exact rfl; exact rfl; exact payR; simp only [pM, pN]) | refine W.seq ?_ | refine W.region ?_ | refine W.block ?_ | refine W.scope ?_ | refine WO.cons ?_ | (refine WO.nil ?_; simp only [tN, bN, eN, true_and]) | (apply WO1.rd; exact payR; exact rfl; simp only [pM, pN, rR, rP]) | (refine WO1.gyes (b := true) rfl rfl ?_ rfl ?_; exact payD) | (refine WO1.gno (b := true) rfl rfl ?_ rfl ?_; exact payD; simp only [pM, pN, rR, rP]) | (refine WO1.gyes (b := false) rfl rfl ?_ rfl ?_; exact payD) | (refine WO1.gno (b := false) rfl rfl ?_ rfl ?_; exact payD; simp only [pM, pN, rR, rP]) | (apply WO1.gsplit; exact rfl; exact rfl; exact payR; refine ⟨fun hh => ?_, fun hh => ?_⟩ <;> try simp only [Bool.not_true, Bool.not_false, pM, pN] at hh ⊢) | (apply WO1.call; exact payR; exact payR; (focus (simp only [List.nil_append, List.append_nil]; first | exact k25 _ | exact k77 _)); simp only [pM, pN, rR, rP]) | (apply WO1.ef; exact rfl; exact payE; simp only [pM, pN, rR, rP]) | (simp only [tP, bP, eP, true_and]) | (refine W.ret ?_; simp only [tR, bR, eR, true_and]) | (refine W.skip ?_; simp only [tN, bN, eN, true_and]) | (refine W.exit ?_; simp only [tX, bS, bO, Nat.reduceBEq, tN, bN]) | (refine W.condT ?_ ?_; exact payD) | (refine W.condF ?_ ?_; exact payD) | (apply W.condB; exact payR; refine ⟨fun hh => ?_, fun hh => ?_⟩))
          all_goals simp only [resV_def (X := dX c18) Tryz.func18, Tryz.results18, resultsV, resultV, go_sem, *, Nat.reduceLT, Int.reduceEq, Int.reduceBEq, Int.reduceLE, Int.reduceLT, Nat.reduceAdd, Nat.reduceBEq, Nat.reduceEqDiff, reduceIte, Nat.reduceLeDiff, Nat.reduceMul, Nat.reduceSub, reduceCtorEq, frzRes, dFrz, frzCells, isRet_ret, tupleOf]
  · have hsl2 : (decide ((st.length : Int) ≤ 6) && decide ((rs.length : Int) ≤ 6)) = false := by simpa using hsl
    have k38 := K38
    rw [hsl2] at k38
    clear hs hr hp1 hp2 hsl hsl2 K38
    refine ClR.walk (c := _) rfl Tryz.func18 rfl (by kernel_rfl) rfl isRet_fail ?_
    simp only [entryEnv, Nat.reduceAdd]
    repeat' (first | (refine ⟨⟨trivial, trivial⟩, ?_⟩) | (refine ⟨⟨rfl, rfl⟩, ?_⟩) | (refine WQ.cons rfl rfl ?_) | (refine WT.cons rfl rfl ?_) | (refine WQ.nil ?_) | (refine WT.nil ?_; simp only [tN, bN, eN, true_and]) | (apply WQ.alloc; exact rfl; exact rfl; exact payR; simp only [pM, pN]) | refine W.seq ?_ | refine W.region ?_ | refine W.block ?_ | refine W.scope ?_ | refine WO.cons ?_ | (refine WO.nil ?_; simp only [tN, bN, eN, true_and]) | (apply WO1.rd; exact payR; exact rfl; simp only [pM, pN, rR, rP]) | (refine WO1.gyes (b := true) rfl rfl ?_ rfl ?_; exact payD) | (refine WO1.gno (b := true) rfl rfl ?_ rfl ?_; exact payD; simp only [pM, pN, rR, rP]) | (refine WO1.gyes (b := false) rfl rfl ?_ rfl ?_; exact payD) | (refine WO1.gno (b := false) rfl rfl ?_ rfl ?_; exact payD; simp only [pM, pN, rR, rP]) | (apply WO1.gsplit; exact rfl; exact rfl; exact payR; refine ⟨fun hh => ?_, fun hh => ?_⟩ <;> try simp only [Bool.not_true, Bool.not_false, pM, pN] at hh ⊢) | (apply WO1.call; exact payR; exact payR; (focus (simp only [List.nil_append, List.append_nil]; first | exact k25 _ | exact k38 _)); simp only [pM, pN, rR, rP]) | (apply WO1.ef; exact rfl; exact payE; simp only [pM, pN, rR, rP]) | (simp only [tP, bP, eP, true_and]) | (refine W.ret ?_; simp only [tR, bR, eR, true_and]) | (refine W.skip ?_; simp only [tN, bN, eN, true_and]) | (refine W.exit ?_; simp only [tX, bS, bO, Nat.reduceBEq, tN, bN]) | (refine W.condT ?_ ?_; exact payD) | (refine W.condF ?_ ?_; exact payD) | (apply W.condB; exact payR; refine ⟨fun hh => ?_, fun hh => ?_⟩))
    all_goals simp only [resV_def (X := dX c18) Tryz.func18, Tryz.results18, resultsV, resultV, go_sem, *, Nat.reduceLT, Int.reduceEq, Int.reduceBEq, Int.reduceLE, Int.reduceLT, Nat.reduceAdd, Nat.reduceBEq, Nat.reduceEqDiff, reduceIte, Nat.reduceLeDiff, Nat.reduceMul, Nat.reduceSub, reduceCtorEq, frzRes, dFrz, frzCells, isRet_ret, tupleOf]
end Go.AM
set_option maxRecDepth 100000
namespace Go.AM
open Go Go.Proofs
variable [Keep]
theorem ag48 : isAggT Tryz.prog 48 = true := by simp [isAggT, Tryz.underlying48]
theorem ag51 : isAggT Tryz.prog 51 = true := by simp [isAggT, Tryz.underlying51]
theorem ag95 : isAggT Tryz.prog 95 = true := by simp [isAggT, Tryz.underlying95]
theorem Sh.sp {n : Nat} {xs : List AV} (h : Sh Tryz.prog (n + 2) 48 xs) : ∃ p : Sp, xs = [.int .i64 p.lo, .int .i64 p.hi] := by
  obtain ⟨x, y, rfl, h1, x2, y2, rfl, h2, rfl⟩ := Sh.struct Tryz.underlying48 h
  obtain ⟨a, rfl⟩ := Sh.i64 h1
  obtain ⟨b, rfl⟩ := Sh.i64 h2
  exact ⟨⟨a, b⟩, rfl⟩
theorem Sh.rdg {n : Nat} {xs : List AV} (h : Sh Tryz.prog (n + 2) 95 xs) : ∃ p : Rdg, xs = [.int .i64 p.b, .int .i64 p.x, .int .i64 p.y, .int .i64 p.err] := by
  obtain ⟨x, y, rfl, h1, x2, y2, rfl, h2, x3, y3, rfl, h3, x4, y4, rfl, h4, rfl⟩ := Sh.struct Tryz.underlying95 h
  obtain ⟨a, rfl⟩ := Sh.i64 h1
  obtain ⟨b, rfl⟩ := Sh.i64 h2
  obtain ⟨c, rfl⟩ := Sh.i64 h3
  obtain ⟨d, rfl⟩ := Sh.i64 h4
  exact ⟨⟨a, b, c, d⟩, rfl⟩
theorem Sh.rdgs {n : Nat} {xs : List AV} (h : Sh Tryz.prog (n + 3) 49 xs) : ∃ (a : AV) (l : List Rdg), xs = [a] ∧ isSl a (l.map rdgC.enc) :=
  Sh.slice rdgC Tryz.underlying49 (fun xs h => by
    obtain ⟨p, rfl⟩ := Sh.rdg h
    exact ⟨p, by rw [ag95]; rfl⟩) h
theorem Sh.mach {n : Nat} {xs : List AV} (h : Sh Tryz.prog (n + 4) 51 xs) : ∃ (sa ra : AV) (cx cy wx wy : Sp) (st : List Pt) (rs : List Rdg),
    xs = [sa, .int .i64 cx.lo, .int .i64 cx.hi, .int .i64 cy.lo, .int .i64 cy.hi, .int .i64 wx.lo, .int .i64 wx.hi, .int .i64 wy.lo, .int .i64 wy.hi, ra] ∧ isSl sa (st.map ptC.enc) ∧ isSl ra (rs.map rdgC.enc) := by
  obtain ⟨x1, y1, rfl, h1, x2, y2, rfl, h2, x3, y3, rfl, h3, x4, y4, rfl, h4, x5, y5, rfl, h5, x6, y6, rfl, h6, rfl⟩ := Sh.struct Tryz.underlying51 h
  obtain ⟨sa, st, rfl, hs⟩ := Sh.pts h1
  obtain ⟨cx, rfl⟩ := Sh.sp h2
  obtain ⟨cy, rfl⟩ := Sh.sp h3
  obtain ⟨wx, rfl⟩ := Sh.sp h4
  obtain ⟨wy, rfl⟩ := Sh.sp h5
  obtain ⟨ra, rs, rfl, hr⟩ := Sh.rdgs h6
  exact ⟨sa, ra, cx, cy, wx, wy, st, rs, rfl, hs, hr⟩
theorem ag39 : isAggT Tryz.prog 39 = false := by simp [isAggT, Tryz.underlying39]
theorem ag109 : isAggT Tryz.prog 109 = true := by simp [isAggT, Tryz.underlying109]
theorem Sh.ints {n : Nat} {xs : List AV} (h : Sh Tryz.prog (n + 2) 39 xs) : ∃ (a : AV) (l : List Int), xs = [a] ∧ isSl a (l.map intC.enc) :=
  Sh.slice intC Tryz.underlying39 (fun xs h => by
    obtain ⟨i, rfl⟩ := Sh.i64 h
    exact ⟨i, by rw [ag3]; rfl⟩) h
theorem Sh.truth {n : Nat} {xs : List AV} (h : Sh Tryz.prog (n + 3) 109 xs) : ∃ (xa ya : AV) (l r : List Int), xs = [xa, ya] ∧ isSl xa (l.map intC.enc) ∧ isSl ya (r.map intC.enc) := by
  obtain ⟨x1, y1, rfl, h1, x2, y2, rfl, h2, rfl⟩ := Sh.struct Tryz.underlying109 h
  obtain ⟨xa, l, rfl, hl⟩ := Sh.ints h1
  obtain ⟨ya, r, rfl, hr⟩ := Sh.ints h2
  exact ⟨xa, ya, l, r, rfl, hl, hr⟩
end Go.AM
set_option maxRecDepth 100000
namespace Go.AM
open Go Go.Proofs
variable [Keep]
theorem c18_sound (hT : TabK Tryz.prog) : Sound (dX c18) := dX_sound (fun f g h => by
  unfold c18 at h
  split at h
  · cases h; exact F38
  · cases h; exact F39
  · cases h; exact F71
  · cases h; exact F73D
  · cases h; exact F77
  · exact (c25_sound hT).intr f g h)
end Go.AM
namespace Go.Proofs.YtlhcjccaimmhgaaGreatDoor
open Go Go.AM Go.ChangeShapes Go.WideShapes Go.ChangeAt Go.RowKit
theorem law18 [Keep] (hT : TabK Tryz.prog) (avs : List AV) (h : ArgsOk Tryz.prog Tryz.f18.params.toList avs) : ∃ X, X.P = Tryz.prog ∧ Sound X ∧ ∃ h', Cl X 18 avs emptyHp (.ret (.bool true) h' none) := by
  rw [Tryz.params18] at h
  rcases h with _ | ⟨k1, _ | _⟩
  obtain ⟨sa, ra, cx, cy, wx, wy, st, rs, rfl, hs, hr⟩ := Sh.mach k1
  rw [ag51]
  exact ⟨dX c18, rfl, c18_sound hT, (T18 sa ra cx cy wx wy st rs hs hr).gives⟩
theorem drillReached_lifted (os : Os) (started : os.Started) (H : Type) (enc : TypeId × Value → H) :
    ReturnsInHanded {} Tryz.checked os 18 .any (fun w args => (Rows.drillReachedSpec.pre enc Tryz.prog Tryz.f18 Rows.drillReachedRow.domain false w args ∧ laidMetH Tryz.prog laidL w) ∧ sizedMet enc Tryz.prog Tryz.f18 (OpenSpec.ofChange Rows.drillReachedSpec) false w args)
      (Rows.drillReachedSpec.post enc Tryz.prog Tryz.f18 false true false false) := by
  refine returnsInHanded_of_change_and (C := Tryz.checked) (X := fun w _ => laidMetH Tryz.prog laidL w) (fun _ _ _ hh h => h.of_heap hh) own started (by kernel_rfl) Tryz.func18
    (ChangeSpec.witness_shaped (enc := enc) (C := Tryz.checked) (os := os) (X := fun w _ => laidMetH Tryz.prog laidL w) false (World.laidAll Tryz.prog os laidL) #[.agg #[.slice none 0 0, .int .i64 0, .int .i64 0, .int .i64 0, .int .i64 0, .int .i64 0, .int .i64 0, .int .i64 0, .int .i64 0, .slice none 0 0]] 8 (World.laidAll_os _ _ _)
      (World.shaped_of_ZipB (by kernel_rfl) (by kernel_rfl)) (by kernel_rfl) (by kernel_rfl) (by kernel_rfl)
      (by rw [MakeChecks.laidMetH_plain _ _ _ (by kernel_rfl)]; exact laidMet_laidAll _ (by kernel_rfl) (by kernel_rfl))) ?_
  intro W base args ds gs before hval hW _ _ hL _
  exact lawHolds Tryz.func18 (by kernel_rfl) rfl (fun ds hd => by
    match ds, hd with
    | [d1], _ => rfl) (by rw [Tryz.params18]; intro t ht; simp at ht; subst ht; kernel_rfl) (by rw [Tryz.params18]; intro t ht; simp at ht; subst ht; exact ⟨by kernel_rfl, of_decide_eq_true (by kernel_rfl)⟩)
    (fun hT avs h => law18 hT avs h) W base args ds gs before hval hW hL
theorem in18 : (Rows.drillReachedRow.inPlace == Tryz.prog.inPlace 18) = true := by kernel_rfl
theorem unf18 : (Rows.drillReachedRow.unfollowed == Tryz.prog.unfollowed 18) = true := by kernel_rfl
theorem rec18 : (Rows.drillReachedRow.recurses == Tryz.prog.recurses 18) = true := by kernel_rfl
theorem nam18 : (Rows.drillReachedRow.named == Tryz.prog.varsNamed 18) = true := by kernel_rfl
theorem closed18 : joinedFacts Tryz.prog 18 Tryz.f18 Rows.drillReachedSpec Rows.drillReachedRow = true := by
  unfold joinedFacts
  rw [enter_ok, lifts_ok, make_ok]
  repeat' (with_reducible apply and_mk)
  all_goals (first | with_reducible exact laidOut | with_reducible exact rowed | with_reducible exact in18 | with_reducible exact unf18 | with_reducible exact rec18 | with_reducible exact nam18 | kernel_rfl)
theorem drillReached_holds : Rows.DrillReachedSaid :=
  OpenClaim.holds_of_wide 18 Tryz.f18 rfl rfl rfl rfl rfl rfl rfl ⟨rfl, rfl, rfl, rfl, rfl⟩ rfl rfl rfl rfl rfl (by kernel_rfl) Tryz.func18 closed18
    (of_decide_eq_true (by kernel_rfl)) (by unfold Func.isWrapper; rw [if_neg (of_decide_eq_false (by kernel_rfl))]; exact ⟨rfl, rfl⟩)
    (fun os started H enc _ => drillReached_lifted os started H enc)
theorem goes18 : false = Rows.drillReachedRow.goesBy Tryz.prog := by kernel_rfl
theorem drillReached_card : Rows.DrillReachedCardSaid :=
  Claim7.holds_tied_plain_at .later [] [.data, .data, .data] true (true, "b61a08fa8ce36e10ae208529fc07d9da226449fa0c1a03ee5c8317728ea357ba") true drillReached_holds (fun _ h => by cases h) (by kernel_rfl) (fun _ h => by cases h) drillReached_row_tie rfl ⟨rfl, rfl⟩ main_ok rfl
    (fun f fn hf hfn => by
      obtain rfl : f = 18 := Option.some.inj ((show Tryz.prog.funcNamed "nacre/nacrelaw02.DrillReached" = some 18 by kernel_rfl).symm.trans hf) |>.symm
      obtain rfl : fn = Tryz.f18 := (Option.some.inj (Tryz.func18.symm.trans hfn)).symm
      exact ⟨looks_ok, fun j t ht => by
        rw [Tryz.params18] at ht
        have hm : t ∈ [51] := by simpa using Array.mem_of_getElem? ht
        have hall : ([51].all fun u => !Tryz.prog.wantsStandIn u) = true := by kernel_rfl
        exact (show Tryz.prog.wantsStandIn t = false by simpa using List.all_eq_true.1 hall t hm)⟩)
    goes18
end Go.Proofs.YtlhcjccaimmhgaaGreatDoor
