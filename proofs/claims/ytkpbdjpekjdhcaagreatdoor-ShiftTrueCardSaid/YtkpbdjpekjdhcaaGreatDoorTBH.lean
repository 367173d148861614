/-
  A part of the proof: contracts of functions.
-/
import Derived.Test.YtkpbdjpekjdhcaaGreatDoorTBF
set_option linter.unusedSectionVars false
set_option linter.unusedVariables false
set_option linter.unusedSimpArgs false
set_option maxRecDepth 100000
namespace Go.AM
open Go Go.Proofs
variable [Keep]
attribute [local irreducible] W WO WO1 WD WQ WT thenQ blockQ endR isRet retK Cl ClR
open Go.TX (Rm Fa Ha Hs mapO mapO_len)
attribute [local irreducible] hasB nowF rowF
theorem sumW_nil : sumW [] = 0 := rfl
theorem sumW_one (l : List Int) (d : Int) : sumW (l ++ [d]) = w64 (sumW l + d) := by unfold sumW; rw [List.foldl_append]; rfl
theorem drawn_bd {m : Hs} (hd : ∀ x ∈ m.fans, 0 ≤ x.draws ∧ x.draws ≤ 50) (f : Fl) (r k : Nat) : ∀ j, j ≤ 1000 → 0 ≤ sumW (drawnP m f r k j) ∧ sumW (drawnP m f r k j) ≤ 50 * j := by
 intro j
 induction j with
 | zero => intro _; unfold drawnP; rw [sumW_nil]; omega
 | succ j ih =>
  intro hj
  have ih := ih (by omega)
  unfold drawnP
  split
  ·rename_i x hx
   have := hd x (List.mem_of_getElem? hx)
   split
   ·rw [sumW_one, w64_small (by omega) (by omega)]; omega
   ·omega
  ·omega
theorem drawn_cmp {m m' : Hs} (hd : ∀ x ∈ m.fans, 0 ≤ x.draws ∧ x.draws ≤ 50) (hd' : ∀ x ∈ m'.fans, 0 ≤ x.draws ∧ x.draws ≤ 50) {f f' : Fl} {r k : Nat}
  (h : ∀ (i : Nat) (x' : Fa), m'.fans[i]? = some x' → ((x'.room == (r : Int)) && drawsB f' i k) = true → ∃ x, m.fans[i]? = some x ∧ ((x.room == (r : Int)) && drawsB f i k) = true ∧ x'.draws ≤ x.draws) : ∀ j, j ≤ 1000 → sumW (drawnP m' f' r k j) ≤ sumW (drawnP m f r k j) := by
 intro j
 induction j with
 | zero => intro _; unfold drawnP; exact Int.le_refl _
 | succ j ih =>
  intro hj
  have ih := ih (by omega)
  have b1 := drawn_bd hd f r k j (by omega)
  have b2 := drawn_bd hd' f' r k j (by omega)
  unfold drawnP
  cases hx' : m'.fans[j]? with
  | none =>
   cases hx : m.fans[j]? with
   | none => exact ih
   | some x =>
    have := hd x (List.mem_of_getElem? hx)
    simp only
    split
    ·rw [sumW_one, w64_small (by omega) (by omega)]; omega
    ·exact ih
  | some x' =>
   have c1 := hd' x' (List.mem_of_getElem? hx')
   by_cases e : ((x'.room == (r : Int)) && drawsB f' j k) = true
   ·obtain ⟨x, e1, e2, e3⟩ := h j x' hx' e
    have c2 := hd x (List.mem_of_getElem? e1)
    rw [e1]
    simp only [e, e2, if_true]
    rw [sumW_one, sumW_one, w64_small (by omega) (by omega), w64_small (by omega) (by omega)]
    omega
   ·simp only [e, if_false]
    cases hx : m.fans[j]? with
    | none => exact ih
    | some x =>
     have c2 := hd x (List.mem_of_getElem? hx)
     simp only
     by_cases e2 : ((x.room == (r : Int)) && drawsB f j k) = true
     ·rw [if_neg (by simp), if_pos e2, sumW_one, w64_small (by omega) (by omega)]; omega
     ·rw [if_neg (by simp), if_neg e2]; exact ih
theorem now_cmp {m m' : Hs} (ho : HOk m) (ho' : HOk m') (f f' : Fl) (r : Nat) {md md' : Nat → Int} (h1 : ∀ k, 0 ≤ md k ∧ md k ≤ 50) (h2 : ∀ k, 0 ≤ md' k ∧ md' k ≤ 50) (hs : (m.rooms.getD r rm0).stt = (m'.rooms.getD r rm0).stt) :
  ∀ n : Nat, n ≤ 1000 → (∀ k, k < n → md k ≤ md' k) → (∀ k, k < n → runsB m f r k = true → runsB m' f' r k = true) → (∀ k, k < n → sumW (drawnP m' f' r k m'.fans.length) ≤ sumW (drawnP m f r k m.fans.length)) → nowF m f r md n ≤ nowF m' f' r md' n := by
 intro n
 induction n with
 | zero => intro _ _ _ _; rw [now_zero, now_zero, hs]; exact Int.le_refl _
 | succ n ih =>
  intro hn h hr hw
  have ih := ih (by omega) (fun k hk => h k (by omega)) (fun k hk => hr k (by omega)) (fun k hk => hw k (by omega))
  have e := h n (by omega)
  have e2 := hr n (by omega)
  have e3 := hw n (by omega)
  have a1 := h1 n
  have a2 := h2 n
  have b1 := now_ok ho f r md h1 n (by omega)
  have b2 := now_ok ho' f' r md' h2 n (by omega)
  have hd := drawn_ok ho f r n
  have hd' := drawn_ok ho' f' r n
  rw [now_next, now_next, maxV_is, maxV_is]
  by_cases c1 : runsB m f r n = true
  ·rw [if_pos c1, if_pos (e2 c1), w64_small (n := nowF m f r md n + md n) (by omega) (by omega), w64_small (n := nowF m' f' r md' n + md' n) (by omega) (by omega), w64_small (by omega) (by omega), w64_small (by omega) (by omega)]
   omega
  ·rw [if_neg c1]
   split
   ·rw [w64_small (n := nowF m' f' r md' n + md' n) (by omega) (by omega), w64_small (by omega) (by omega), w64_small (by omega) (by omega)]
    omega
   ·rw [w64_small (by omega) (by omega), w64_small (by omega) (by omega)]
    omega
theorem fans_ok {m : Hs} (ho : HOk m) : ∀ x ∈ m.fans, 0 ≤ x.draws ∧ x.draws ≤ 50 := fun x hx => by have := ho.fan x hx; omega
theorem now_fan {m : Hs} (ho : HOk m) (a b : Int) (r : Nat) {md : Nat → Int} (h1 : ∀ k, 0 ≤ md k ∧ md k ≤ 50) (n : Nat) (hn : n ≤ 1000) : nowF m .no r md n ≤ nowF m (.fan a b) r md n :=
 now_cmp ho ho .no (.fan a b) r h1 h1 rfl n hn (fun _ _ => Int.le_refl _) (fun k _ h => by unfold runsB standsB at h ⊢; exact h) fun k _ => by
  have h4 := ho.fans
  refine drawn_cmp (fans_ok ho) (fans_ok ho) (fun i x hx e => ⟨x, hx, ?_, Int.le_refl _⟩) _ (by omega)
  simp only [Bool.and_eq_true] at e ⊢
  exact ⟨e.1, rfl⟩
theorem now_mach {m : Hs} (ho : HOk m) (a b : Int) (r : Nat) {md : Nat → Int} (h1 : ∀ k, 0 ≤ md k ∧ md k ≤ 50) (n : Nat) (hn : n ≤ 1000) : nowF m (.mach a b) r md n ≤ nowF m .no r md n :=
 now_cmp ho ho (.mach a b) .no r h1 h1 rfl n hn (fun _ _ => Int.le_refl _) (fun k _ h => by
  unfold runsB at h ⊢
  simp only [Bool.and_eq_true] at h ⊢
  exact ⟨h.1, rfl⟩) fun k _ => by
  have h4 := ho.fans
  refine drawn_cmp (fans_ok ho) (fans_ok ho) (fun i x hx e => ⟨x, hx, ?_, Int.le_refl _⟩) _ (by omega)
  simp only [Bool.and_eq_true] at e ⊢
  exact ⟨e.1, rfl⟩
theorem run_at {m : Hs} {f : Fl} {g : List (List Int)} {r k : Nat} (hr : r < m.rooms.length) (hk : k < m.hours.toNat) : ((runG m f g).getD r []).getD k 0 = nowF m f r (mdG g r) (k + 1) := by
 have h1 := runL_get m f g m.hours.toNat hr
 have h2 := row_get (m := m) (f := f) (r := r) (md := mdG g r) hk
 unfold runG
 simp only [List.getD, h1, Option.getD_some, h2]
theorem truth_known {m : Hs} (ho : HOk m) {f : Fl} (hff : f ∈ failsH m) {g : List (List Int)} (hf : fitsB m g = true) (hl : g.length = m.rooms.length) (hr : ∀ x ∈ g, (x.length : Int) = m.hours) {r k : Nat} (h1 : r < m.rooms.length) (h2 : k < m.hours.toNat) (hp : pathB m (rstP m.hours.toNat k r) = true) :
  (airS m (rstP m.hours.toNat k r)).1 ≤ nowF m f r (mdG g r) (k + 1) ∧ nowF m f r (mdG g r) (k + 1) ≤ (airS m (rstP m.hours.toNat k r)).2 := by
 have h3 := truth_in ho hp hff hf hl hr
 rw [brV_rest (runG_ok ho f hf hl) h1 h2, run_at h1 h2] at h3
 exact h3
end Go.AM
