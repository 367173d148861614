/-
  A part of the proof: contracts of functions.
-/
import Derived.Test.YtkpbdjpekjdhcaaGreatDoorTBC
import Derived.Test.YtkpbdjpekjdhcaaGreatDoorTBE
set_option linter.unusedSectionVars false
set_option linter.unusedVariables false
set_option linter.unusedSimpArgs false
set_option maxRecDepth 100000
namespace Go.AM
open Go Go.Proofs
variable [Keep]
attribute [local irreducible] W WO WO1 WD WQ WT thenQ blockQ endR isRet retK Cl ClR
open Go.TX (Rm Fa Ha Hs)
attribute [local irreducible] runsB drawnP sumW nowF rowF
theorem now_mono {m : Hs} (ho : HOk m) (f : Fl) (r : Nat) {md md' : Nat → Int} (h1 : ∀ k, 0 ≤ md k ∧ md k ≤ 50) (h2 : ∀ k, 0 ≤ md' k ∧ md' k ≤ 50) : ∀ n : Nat, n ≤ 1000 → (∀ k, k < n → md k ≤ md' k) → nowF m f r md n ≤ nowF m f r md' n := by
 intro n
 induction n with
 | zero => intro _ _; rw [now_zero, now_zero]; exact Int.le_refl _
 | succ n ih =>
  intro hn h
  have ih := ih (by omega) fun k hk => h k (by omega)
  have e := h n (by omega)
  have a1 := h1 n
  have a2 := h2 n
  have b1 := now_ok ho f r md h1 n (by omega)
  have b2 := now_ok ho f r md' h2 n (by omega)
  have hd := drawn_ok ho f r n
  rw [now_next, now_next, maxV_is, maxV_is]
  split
  ·rw [w64_small (n := nowF m f r md n + md n) (by omega) (by omega), w64_small (n := nowF m f r md' n + md' n) (by omega) (by omega), w64_small (by omega) (by omega), w64_small (by omega) (by omega)]
   omega
  ·rw [w64_small (by omega) (by omega), w64_small (by omega) (by omega)]
   omega
theorem fit_is {m : Hs} {g : List (List Int)} (hf : fitsB m g = true) {r k : Nat} {row : List Int} {x : Int} (hr : r < m.rooms.length) (hg : g[r]? = some row) (hx : row[k]? = some x) : (m.rooms.getD r rm0).lo ≤ x ∧ x ≤ (m.rooms.getD r rm0).hi := by
 unfold fitsB at hf
 have h1 := List.all_eq_true.1 hf r (List.mem_range.2 hr)
 unfold rowFit at h1
 simp only [List.getD, hg, Option.getD_some] at h1
 have h2 := List.all_eq_true.1 h1 x (List.mem_of_getElem? hx)
 have := inB_iff.1 h2
 simpa [List.getD] using this
theorem md_ok {m : Hs} (ho : HOk m) {g : List (List Int)} (hf : fitsB m g = true) (hl : g.length = m.rooms.length) (r k : Nat) : 0 ≤ mdG g r k ∧ mdG g r k ≤ 50 := by
 unfold mdG
 cases hg : g[r]? with
 | none => simp [List.getD, hg]
 | some row =>
  cases hx : row[k]? with
  | none => simp [List.getD, hg, hx]
  | some x =>
   obtain ⟨h1, _⟩ := List.getElem?_eq_some_iff.1 hg
   have := fit_is hf (by omega) hg hx
   have := stt_ok ho r
   simp only [List.getD, hg, hx, Option.getD_some]
   simp only [List.getD] at *
   omega
theorem md_in {m : Hs} {g : List (List Int)} (hf : fitsB m g = true) (hl : g.length = m.rooms.length) (hr : ∀ x ∈ g, (x.length : Int) = m.hours) {r k : Nat} (h1 : r < m.rooms.length) (h2 : k < m.hours.toNat) : (m.rooms.getD r rm0).lo ≤ mdG g r k ∧ mdG g r k ≤ (m.rooms.getD r rm0).hi := by
 obtain ⟨row, hg⟩ := get_some (l := g) (k := r) (by omega)
 have hrl := hr row (List.mem_of_getElem? hg)
 obtain ⟨x, hx⟩ := get_some (l := row) (k := k) (by omega)
 have := fit_is hf h1 hg hx
 unfold mdG
 simp only [List.getD, hg, hx, Option.getD_some] at this ⊢
 exact this
theorem runL_get (m : Hs) (f : Fl) (g : List (List Int)) (nn : Nat) : ∀ {R r : Nat}, r < R → (runL m f g nn R)[r]? = some (rowF m f r (mdG g r) nn) := by
 intro R
 induction R with
 | zero => intro r h; omega
 | succ R ih =>
  intro r h
  have hl := runL_len m f g nn R
  rw [runL]
  by_cases e : r < R
  ·rw [List.getElem?_append_left (by omega)]
   exact ih e
  ·obtain rfl : r = R := by omega
   rw [List.getElem?_append_right (by omega), hl]
   simp
def runG (m : Hs) (f : Fl) (g : List (List Int)) : List (List Int) := runL m f g m.hours.toNat m.rooms.length
theorem runG_ok {m : Hs} (ho : HOk m) (f : Fl) {g : List (List Int)} (hf : fitsB m g = true) (hl : g.length = m.rooms.length) : GOk (runG m f g) m.rooms.length m.hours.toNat 250 :=
 grid_of ho f _ (runL_len ..) (fun r => mdG g r) (fun r k => md_ok ho hf hl r k) fun r hr => runL_get m f g _ hr
def leG (a b : List (List Int)) : Prop := ∀ (r k : Nat) (x y : List Int) (u v : Int), a[r]? = some x → b[r]? = some y → x[k]? = some u → y[k]? = some v → u ≤ v
theorem br_mono {a b : List (List Int)} {R n : Nat} (ha : GOk a R n 250) (hb : GOk b R n 250) (hab : leG a b) {p : List Int} (hp : p.length = n) (hx : ∀ x ∈ p, -1 ≤ x ∧ x < R) (hn : n ≤ 1000) : ∀ k : Nat, k ≤ n → ∀ s t, brG a p k = some s → brG b p k = some t → s ≤ t := by
 intro k
 induction k with
 | zero => intro _ s t h1 h2; unfold brG at h1 h2; cases h1; cases h2; exact Int.le_refl _
 | succ k ih =>
  intro hk s t h1 h2
  obtain ⟨s0, e1, e2, e3⟩ := br_ok ha hp hx (by omega) (by omega) k (by omega) (by omega)
  obtain ⟨t0, d1, d2, d3⟩ := br_ok hb hp hx (by omega) (by omega) k (by omega) (by omega)
  have ih := ih (by omega) s0 t0 e1 d1
  obtain ⟨r, hr⟩ := get_some (l := p) (k := k) (by omega)
  have hrr := hx r (List.mem_of_getElem? hr)
  unfold brG at h1 h2
  simp only [e1, d1, hr] at h1 h2
  by_cases e : r = -1
  ·subst e
   simp at h1 h2
   omega
  ·have e' : (r == -1) = false := by simpa using e
   rw [e'] at h1 h2
   simp only [Bool.false_eq_true, if_false] at h1 h2
   obtain ⟨ra, ga⟩ := get_some (l := a) (k := r.toNat) (by rw [ha.len]; omega)
   obtain ⟨rb, gb⟩ := get_some (l := b) (k := r.toNat) (by rw [hb.len]; omega)
   have la := ha.row ra (List.mem_of_getElem? ga)
   have lb := hb.row rb (List.mem_of_getElem? gb)
   obtain ⟨u, hu⟩ := get_some (l := ra) (k := k) (by omega)
   obtain ⟨v, hv⟩ := get_some (l := rb) (k := k) (by omega)
   have huv := hab r.toNat k ra rb u v ga gb hu hv
   have hua := ha.val ra (List.mem_of_getElem? ga) u (List.mem_of_getElem? hu)
   have hvb := hb.val rb (List.mem_of_getElem? gb) v (List.mem_of_getElem? hv)
   have g1 : gridA a r k = some u := by unfold gridA; rw [if_pos (by omega)]; simp only [ga, hu]
   have g2 : gridA b r k = some v := by unfold gridA; rw [if_pos (by omega)]; simp only [gb, hv]
   rw [g1] at h1
   rw [g2] at h2
   simp only [Option.some.injEq] at h1 h2
   have hk1 : (250 : Int) * k ≤ 250 * 1000 := Int.mul_le_mul_of_nonneg_left (by omega) (by omega)
   rw [w64_small (by omega) (by omega)] at h1 h2
   omega
theorem brV_mono {m : Hs} (ho : HOk m) {p : List Int} (h : pathB m p = true) {a b : List (List Int)} (ha : GOk a m.rooms.length m.hours.toNat 250) (hb : GOk b m.rooms.length m.hours.toNat 250) (hab : leG a b) : brV a p ≤ brV b p := by
 have hh := ho.hours
 obtain ⟨h1, h2⟩ := path_is ho h
 exact br_mono ha hb hab h1 h2 (by omega) p.length (by omega) _ _ (brV_is ho h ha).1 (brV_is ho h hb).1
theorem run_between {m : Hs} (ho : HOk m) (f : Fl) {g : List (List Int)} (hf : fitsB m g = true) (hl : g.length = m.rooms.length) (hr : ∀ x ∈ g, (x.length : Int) = m.hours) : leG (lowG m f) (runG m f g) ∧ leG (runG m f g) (highG m f) := by
 have hh := ho.hours
 have key : ∀ {r k : Nat}, r < m.rooms.length → k < m.hours.toNat → nowF m f r (fun _ => (m.rooms.getD r rm0).lo) (k + 1) ≤ nowF m f r (mdG g r) (k + 1) ∧ nowF m f r (mdG g r) (k + 1) ≤ nowF m f r (fun _ => (m.rooms.getD r rm0).hi) (k + 1) := by
  intro r k h1 h2
  have hs := stt_ok ho r
  exact ⟨now_mono ho f r (fun _ => by omega) (md_ok ho hf hl r) _ (by omega) fun j hj => (md_in hf hl hr h1 (by omega)).1, now_mono ho f r (md_ok ho hf hl r) (fun _ => by omega) _ (by omega) fun j hj => (md_in hf hl hr h1 (by omega)).2⟩
 constructor
 ·intro r k x y u v h1 h2 h3 h4
  obtain ⟨hr1, _⟩ := List.getElem?_eq_some_iff.1 h1
  have hrl : r < m.rooms.length := by rw [(low_ok ho f).len] at hr1; exact hr1
  have e1 := (lows_get m f hrl).1
  have e2 := runL_get m f g m.hours.toNat hrl
  unfold lowG at h1
  unfold runG at h2
  rw [e1] at h1
  rw [e2] at h2
  cases h1
  cases h2
  obtain ⟨hk, _⟩ := List.getElem?_eq_some_iff.1 h3
  rw [row_len] at hk
  rw [row_get hk] at h3 h4
  cases h3
  cases h4
  exact (key hrl hk).1
 ·intro r k x y u v h1 h2 h3 h4
  obtain ⟨hr1, _⟩ := List.getElem?_eq_some_iff.1 h1
  have hrl : r < m.rooms.length := by rw [(runG_ok ho f hf hl).len] at hr1; exact hr1
  have e1 := (lows_get m f hrl).2
  have e2 := runL_get m f g m.hours.toNat hrl
  unfold highG at h2
  unfold runG at h1
  rw [e1] at h2
  rw [e2] at h1
  cases h1
  cases h2
  obtain ⟨hk, _⟩ := List.getElem?_eq_some_iff.1 h3
  rw [row_len] at hk
  rw [row_get hk] at h3 h4
  cases h3
  cases h4
  exact (key hrl hk).2
theorem foldmin_le : ∀ (l : List Int) (a : Int), l.foldl minV a ≤ a ∧ (∀ x ∈ l, l.foldl minV a ≤ x) ∧ (l.foldl minV a = a ∨ l.foldl minV a ∈ l)
 | [], a => by simp
 | y :: l, a => by
  obtain ⟨h1, h2, h3⟩ := foldmin_le l (minV a y)
  rw [List.foldl_cons]
  have hm := minV_is a y
  refine ⟨by omega, fun x hx => ?_, ?_⟩
  ·rcases List.mem_cons.1 hx with rfl | hx
   ·omega
   ·exact h2 x hx
  ·rcases h3 with h3 | h3
   ·by_cases e : a ≤ y
    ·left; omega
    ·right; rw [h3, hm]; rw [Int.min_eq_right (by omega)]; simp
   ·right; exact List.mem_cons_of_mem _ h3
theorem foldmax_le : ∀ (l : List Int) (a : Int), a ≤ l.foldl maxV a ∧ (∀ x ∈ l, x ≤ l.foldl maxV a) ∧ (l.foldl maxV a = a ∨ l.foldl maxV a ∈ l)
 | [], a => by simp
 | y :: l, a => by
  obtain ⟨h1, h2, h3⟩ := foldmax_le l (maxV a y)
  rw [List.foldl_cons]
  have hm := maxV_is a y
  refine ⟨by omega, fun x hx => ?_, ?_⟩
  ·rcases List.mem_cons.1 hx with rfl | hx
   ·omega
   ·exact h2 x hx
  ·rcases h3 with h3 | h3
   ·by_cases e : y ≤ a
    ·left; omega
    ·right; rw [h3, hm]; rw [Int.max_eq_right (by omega)]; simp
   ·right; exact List.mem_cons_of_mem _ h3
theorem minL_is {l : List Int} (hne : l ≠ []) : minL l ∈ l ∧ ∀ x ∈ l, minL l ≤ x := by
 cases l with
 | nil => exact absurd rfl hne
 | cons a l =>
  obtain ⟨h1, h2, h3⟩ := foldmin_le l a
  have e0 : minL (a :: l) = l.foldl minV a := rfl
  rw [e0]
  refine ⟨?_, fun x hx => ?_⟩
  ·rcases h3 with h3 | h3
   ·rw [h3]; simp
   ·exact List.mem_cons_of_mem _ h3
  ·rcases List.mem_cons.1 hx with rfl | hx
   ·exact h1
   ·exact h2 x hx
theorem maxL_is {l : List Int} (hne : l ≠ []) : maxL' l ∈ l ∧ ∀ x ∈ l, x ≤ maxL' l := by
 cases l with
 | nil => exact absurd rfl hne
 | cons a l =>
  obtain ⟨h1, h2, h3⟩ := foldmax_le l a
  have e0 : maxL' (a :: l) = l.foldl maxV a := rfl
  rw [e0]
  refine ⟨?_, fun x hx => ?_⟩
  ·rcases h3 with h3 | h3
   ·rw [h3]; simp
   ·exact List.mem_cons_of_mem _ h3
  ·rcases List.mem_cons.1 hx with rfl | hx
   ·exact h1
   ·exact h2 x hx
theorem air_in {m : Hs} {p : List Int} {f : Fl} (hf : f ∈ failsH m) : (airS m p).1 ≤ brV (lowG m f) p ∧ brV (highG m f) p ≤ (airS m p).2 := by
 have h1 : brV (lowG m f) p ∈ lowsV m p := List.mem_map_of_mem (f := fun f => brV (lowG m f) p) hf
 have h2 : brV (highG m f) p ∈ highsV m p := List.mem_map_of_mem (f := fun f => brV (highG m f) p) hf
 exact ⟨(minL_is (fun e => by rw [e] at h1; cases h1)).2 _ h1, (maxL_is (fun e => by rw [e] at h2; cases h2)).2 _ h2⟩
theorem truth_in {m : Hs} (ho : HOk m) {p : List Int} (h : pathB m p = true) {f : Fl} (hff : f ∈ failsH m) {g : List (List Int)} (hf : fitsB m g = true) (hl : g.length = m.rooms.length) (hr : ∀ x ∈ g, (x.length : Int) = m.hours) : (airS m p).1 ≤ brV (runG m f g) p ∧ brV (runG m f g) p ≤ (airS m p).2 := by
 obtain ⟨h1, h2⟩ := run_between ho f hf hl hr
 have a := air_in (p := p) hff
 have b := brV_mono ho h (low_ok ho f) (runG_ok ho f hf hl) h1
 have c := brV_mono ho h (runG_ok ho f hf hl) (high_ok ho f) h2
 omega
end Go.AM
namespace Go.AM
open Go Go.Proofs
variable [Keep]
attribute [local irreducible] W WO WO1 WD WQ WT thenQ blockQ endR isRet retK Cl ClR
open Go.TX (Rm Fa Ha Hs)
theorem rst_get {n k r j : Nat} (hj : j < n) : (rstP n k r)[j]? = some (if j = k then (r : Int) else -1) := by
 unfold rstP
 rw [List.getElem?_set]
 by_cases e : k = j
 ·subst e
  rw [if_pos rfl, if_pos rfl]
  simp [hj]
 ·rw [if_neg e, if_neg (fun h => e h.symm), List.getElem?_replicate, if_pos hj]
theorem rst_len (n k r : Nat) : (rstP n k r).length = n := by unfold rstP; rw [List.length_set, List.length_replicate]
theorem br_rest {g : List (List Int)} {R n : Nat} (hg : GOk g R n 250) {r k : Nat} (hr : r < R) (hk : k < n) : ∀ j : Nat, j ≤ n → brG g (rstP n k r) j = some (if j ≤ k then 0 else (g.getD r []).getD k 0) := by
 obtain ⟨row, hrow⟩ := get_some (l := g) (k := r) (by rw [hg.len]; exact hr)
 have hrl := hg.row row (List.mem_of_getElem? hrow)
 obtain ⟨x, hx⟩ := get_some (l := row) (k := k) (by omega)
 have hv := hg.val row (List.mem_of_getElem? hrow) x (List.mem_of_getElem? hx)
 have hgx : (g.getD r []).getD k 0 = x := by simp [List.getD, hrow, hx]
 rw [hgx]
 intro j
 induction j with
 | zero => intro _; unfold brG; simp
 | succ j ih =>
  intro hj
  have ih := ih (by omega)
  have hp := rst_get (n := n) (k := k) (r := r) (j := j) (by omega)
  unfold brG
  simp only [ih, hp]
  by_cases e : j = k
  ·subst e
   have e1 : ((r : Int) == -1) = false := by simp only [beq_eq_false_iff_ne, ne_eq]; omega
   have hga : gridA g (r : Int) j = some x := by
    unfold gridA
    rw [if_pos (by omega)]
    simp [hrow, hx]
   simp only [if_true, e1, Bool.false_eq_true, if_false, hga, Nat.le_refl]
   rw [if_neg (by omega), w64_small (by omega) (by omega), Int.zero_add]
  ·simp only [if_neg e, beq_self_eq_true, if_true]
   by_cases e2 : j ≤ k
   ·rw [if_pos e2, if_pos (by omega)]
   ·rw [if_neg e2, if_neg (by omega)]
theorem brV_rest {g : List (List Int)} {R n : Nat} (hg : GOk g R n 250) {r k : Nat} (hr : r < R) (hk : k < n) : brV g (rstP n k r) = (g.getD r []).getD k 0 := by
 unfold brV
 rw [rst_len, br_rest hg hr hk n (Nat.le_refl _), if_neg (by omega)]
 rfl
theorem kn_fold {m : Hs} (ho : HOk m) {r k : Nat} (hr : r < m.rooms.length) (hk : k < m.hours.toNat) {f0 : Fl} (h0 : (failsH m)[0]? = some f0) :
  airS m (rstP m.hours.toNat k r) = (((failsH m).map fun f => ((lowG m f).getD r []).getD k 0).foldl minV (((lowG m f0).getD r []).getD k 0), ((failsH m).map fun f => ((highG m f).getD r []).getD k 0).foldl maxV (((highG m f0).getD r []).getD k 0)) := by
 have e1 : lowsV m (rstP m.hours.toNat k r) = (failsH m).map fun f => ((lowG m f).getD r []).getD k 0 := by
  unfold lowsV
  exact List.map_congr_left fun f _ => brV_rest (low_ok ho f) hr hk
 have e2 : highsV m (rstP m.hours.toNat k r) = (failsH m).map fun f => ((highG m f).getD r []).getD k 0 := by
  unfold highsV
  exact List.map_congr_left fun f _ => brV_rest (high_ok ho f) hr hk
 unfold airS
 rw [e1, e2]
 generalize failsH m = L at *
 cases L with
 | nil => cases h0
 | cons f l =>
  simp only [List.getElem?_cons_zero, Option.some.injEq] at h0
  subst h0
  have a1 : ∀ x : Int, minV x x = x := fun x => by simp [minV]
  have a2 : ∀ x : Int, maxV x x = x := fun x => by simp [maxV]
  simp only [List.map_cons, minL, maxL', List.foldl_cons, a1, a2]
end Go.AM
