/-
  A part of the proof: contracts of functions.
-/
import Derived.Test.YtkpbdjpekjdhcaaGreatDoorUBE
import Derived.Test.YtkpbdjpekjdhcaaGreatDoorUBG
set_option linter.unusedSectionVars false
set_option linter.unusedVariables false
set_option linter.unusedSimpArgs false
set_option maxRecDepth 100000
namespace Go.AM
open Go Go.Proofs
variable [Keep]
attribute [local irreducible] W WO WO1 WD WQ WT thenQ blockQ endR isRet retK Cl ClR
open Go.TX (Rm Fa Ha Hs mapO mapO_len)
attribute [local irreducible] hasB nowF rowF
theorem sumW_nil : sumW [] = 0 := rfl
theorem sumW_one (l : List Int) (d : Int) : sumW (l ++ [d]) = w64 (sumW l + d) := by unfold sumW; rw [List.foldl_append]; rfl
theorem drawn_bd {m : Hs} (hd : ∀ x ∈ m.fans, 0 ≤ x.draws ∧ x.draws ≤ 50) (f : Fl) (r k : Nat) : ∀ j, j ≤ 1000 → 0 ≤ sumW (drawnP m f r k j) ∧ sumW (drawnP m f r k j) ≤ 50 * j := by
 intro j
 induction j with
 | zero => intro _; unfold drawnP; rw [sumW_nil]; omega
 | succ j ih =>
  intro hj
  have ih := ih (by omega)
  unfold drawnP
  split
  ·rename_i x hx
   have := hd x (List.mem_of_getElem? hx)
   split
   ·rw [sumW_one, w64_small (by omega) (by omega)]; omega
   ·omega
  ·omega
theorem drawn_cmp {m m' : Hs} (hd : ∀ x ∈ m.fans, 0 ≤ x.draws ∧ x.draws ≤ 50) (hd' : ∀ x ∈ m'.fans, 0 ≤ x.draws ∧ x.draws ≤ 50) {f f' : Fl} {r k : Nat}
  (h : ∀ (i : Nat) (x' : Fa), m'.fans[i]? = some x' → ((x'.room == (r : Int)) && drawsB f' i k) = true → ∃ x, m.fans[i]? = some x ∧ ((x.room == (r : Int)) && drawsB f i k) = true ∧ x'.draws ≤ x.draws) : ∀ j, j ≤ 1000 → sumW (drawnP m' f' r k j) ≤ sumW (drawnP m f r k j) := by
 intro j
 induction j with
 | zero => intro _; unfold drawnP; exact Int.le_refl _
 | succ j ih =>
  intro hj
  have ih := ih (by omega)
  have b1 := drawn_bd hd f r k j (by omega)
  have b2 := drawn_bd hd' f' r k j (by omega)
  unfold drawnP
  cases hx' : m'.fans[j]? with
  | none =>
   cases hx : m.fans[j]? with
   | none => exact ih
   | some x =>
    have := hd x (List.mem_of_getElem? hx)
    simp only
    split
    ·rw [sumW_one, w64_small (by omega) (by omega)]; omega
    ·exact ih
  | some x' =>
   have c1 := hd' x' (List.mem_of_getElem? hx')
   by_cases e : ((x'.room == (r : Int)) && drawsB f' j k) = true
   ·obtain ⟨x, e1, e2, e3⟩ := h j x' hx' e
    have c2 := hd x (List.mem_of_getElem? e1)
    rw [e1]
    simp only [e, e2, if_true]
    rw [sumW_one, sumW_one, w64_small (by omega) (by omega), w64_small (by omega) (by omega)]
    omega
   ·simp only [e, if_false]
    cases hx : m.fans[j]? with
    | none => exact ih
    | some x =>
     have c2 := hd x (List.mem_of_getElem? hx)
     simp only
     by_cases e2 : ((x.room == (r : Int)) && drawsB f j k) = true
     ·rw [if_neg (by simp), if_pos e2, sumW_one, w64_small (by omega) (by omega)]; omega
     ·rw [if_neg (by simp), if_neg e2]; exact ih
theorem now_cmp {m m' : Hs} (ho : HOk m) (ho' : HOk m') (f f' : Fl) (r : Nat) {md md' : Nat → Int} (h1 : ∀ k, 0 ≤ md k ∧ md k ≤ 50) (h2 : ∀ k, 0 ≤ md' k ∧ md' k ≤ 50) (hs : (m.rooms.getD r rm0).stt = (m'.rooms.getD r rm0).stt) :
  ∀ n : Nat, n ≤ 1000 → (∀ k, k < n → md k ≤ md' k) → (∀ k, k < n → runsB m f r k = true → runsB m' f' r k = true) → (∀ k, k < n → sumW (drawnP m' f' r k m'.fans.length) ≤ sumW (drawnP m f r k m.fans.length)) → nowF m f r md n ≤ nowF m' f' r md' n := by
 intro n
 induction n with
 | zero => intro _ _ _ _; rw [now_zero, now_zero, hs]; exact Int.le_refl _
 | succ n ih =>
  intro hn h hr hw
  have ih := ih (by omega) (fun k hk => h k (by omega)) (fun k hk => hr k (by omega)) (fun k hk => hw k (by omega))
  have e := h n (by omega)
  have e2 := hr n (by omega)
  have e3 := hw n (by omega)
  have a1 := h1 n
  have a2 := h2 n
  have b1 := now_ok ho f r md h1 n (by omega)
  have b2 := now_ok ho' f' r md' h2 n (by omega)
  have hd := drawn_ok ho f r n
  have hd' := drawn_ok ho' f' r n
  rw [now_next, now_next, maxV_is, maxV_is]
  by_cases c1 : runsB m f r n = true
  ·rw [if_pos c1, if_pos (e2 c1), w64_small (n := nowF m f r md n + md n) (by omega) (by omega), w64_small (n := nowF m' f' r md' n + md' n) (by omega) (by omega), w64_small (by omega) (by omega), w64_small (by omega) (by omega)]
   omega
  ·rw [if_neg c1]
   split
   ·rw [w64_small (n := nowF m' f' r md' n + md' n) (by omega) (by omega), w64_small (by omega) (by omega), w64_small (by omega) (by omega)]
    omega
   ·rw [w64_small (by omega) (by omega), w64_small (by omega) (by omega)]
    omega
theorem fans_ok {m : Hs} (ho : HOk m) : ∀ x ∈ m.fans, 0 ≤ x.draws ∧ x.draws ≤ 50 := fun x hx => by have := ho.fan x hx; omega
end Go.AM
