/-
  A part of the proof: contracts of functions.
-/
import Derived.Test.YtkpbdjpekjdhcaaGreatDoorUBD
set_option linter.unusedSectionVars false
set_option linter.unusedVariables false
set_option linter.unusedSimpArgs false
set_option maxRecDepth 100000
namespace Go.AM
open Go Go.Proofs
variable [Keep]
attribute [local irreducible] W WO WO1 WD WQ WT thenQ blockQ endR isRet retK Cl ClR
open Go.TX (Rm Fa Ha Hs)
attribute [local irreducible] runsB drawnP sumW nowF rowF
def leG (a b : List (List Int)) : Prop := ∀ (r k : Nat) (x y : List Int) (u v : Int), a[r]? = some x → b[r]? = some y → x[k]? = some u → y[k]? = some v → u ≤ v
theorem br_mono {a b : List (List Int)} {R n : Nat} (ha : GOk a R n 250) (hb : GOk b R n 250) (hab : leG a b) {p : List Int} (hp : p.length = n) (hx : ∀ x ∈ p, -1 ≤ x ∧ x < R) (hn : n ≤ 1000) : ∀ k : Nat, k ≤ n → ∀ s t, brG a p k = some s → brG b p k = some t → s ≤ t := by
 intro k
 induction k with
 | zero => intro _ s t h1 h2; unfold brG at h1 h2; cases h1; cases h2; exact Int.le_refl _
 | succ k ih =>
  intro hk s t h1 h2
  obtain ⟨s0, e1, e2, e3⟩ := br_ok ha hp hx (by omega) (by omega) k (by omega) (by omega)
  obtain ⟨t0, d1, d2, d3⟩ := br_ok hb hp hx (by omega) (by omega) k (by omega) (by omega)
  have ih := ih (by omega) s0 t0 e1 d1
  obtain ⟨r, hr⟩ := get_some (l := p) (k := k) (by omega)
  have hrr := hx r (List.mem_of_getElem? hr)
  unfold brG at h1 h2
  simp only [e1, d1, hr] at h1 h2
  by_cases e : r = -1
  ·subst e
   simp at h1 h2
   omega
  ·have e' : (r == -1) = false := by simpa using e
   rw [e'] at h1 h2
   simp only [Bool.false_eq_true, if_false] at h1 h2
   obtain ⟨ra, ga⟩ := get_some (l := a) (k := r.toNat) (by rw [ha.len]; omega)
   obtain ⟨rb, gb⟩ := get_some (l := b) (k := r.toNat) (by rw [hb.len]; omega)
   have la := ha.row ra (List.mem_of_getElem? ga)
   have lb := hb.row rb (List.mem_of_getElem? gb)
   obtain ⟨u, hu⟩ := get_some (l := ra) (k := k) (by omega)
   obtain ⟨v, hv⟩ := get_some (l := rb) (k := k) (by omega)
   have huv := hab r.toNat k ra rb u v ga gb hu hv
   have hua := ha.val ra (List.mem_of_getElem? ga) u (List.mem_of_getElem? hu)
   have hvb := hb.val rb (List.mem_of_getElem? gb) v (List.mem_of_getElem? hv)
   have g1 : gridA a r k = some u := by unfold gridA; rw [if_pos (by omega)]; simp only [ga, hu]
   have g2 : gridA b r k = some v := by unfold gridA; rw [if_pos (by omega)]; simp only [gb, hv]
   rw [g1] at h1
   rw [g2] at h2
   simp only [Option.some.injEq] at h1 h2
   have hk1 : (250 : Int) * k ≤ 250 * 1000 := Int.mul_le_mul_of_nonneg_left (by omega) (by omega)
   rw [w64_small (by omega) (by omega)] at h1 h2
   omega
theorem brV_mono {m : Hs} (ho : HOk m) {p : List Int} (h : pathB m p = true) {a b : List (List Int)} (ha : GOk a m.rooms.length m.hours.toNat 250) (hb : GOk b m.rooms.length m.hours.toNat 250) (hab : leG a b) : brV a p ≤ brV b p := by
 have hh := ho.hours
 obtain ⟨h1, h2⟩ := path_is ho h
 exact br_mono ha hb hab h1 h2 (by omega) p.length (by omega) _ _ (brV_is ho h ha).1 (brV_is ho h hb).1
theorem foldmin_le : ∀ (l : List Int) (a : Int), l.foldl minV a ≤ a ∧ (∀ x ∈ l, l.foldl minV a ≤ x) ∧ (l.foldl minV a = a ∨ l.foldl minV a ∈ l)
 | [], a => by simp
 | y :: l, a => by
  obtain ⟨h1, h2, h3⟩ := foldmin_le l (minV a y)
  rw [List.foldl_cons]
  have hm := minV_is a y
  refine ⟨by omega, fun x hx => ?_, ?_⟩
  ·rcases List.mem_cons.1 hx with rfl | hx
   ·omega
   ·exact h2 x hx
  ·rcases h3 with h3 | h3
   ·by_cases e : a ≤ y
    ·left; omega
    ·right; rw [h3, hm]; rw [Int.min_eq_right (by omega)]; simp
   ·right; exact List.mem_cons_of_mem _ h3
theorem foldmax_le : ∀ (l : List Int) (a : Int), a ≤ l.foldl maxV a ∧ (∀ x ∈ l, x ≤ l.foldl maxV a) ∧ (l.foldl maxV a = a ∨ l.foldl maxV a ∈ l)
 | [], a => by simp
 | y :: l, a => by
  obtain ⟨h1, h2, h3⟩ := foldmax_le l (maxV a y)
  rw [List.foldl_cons]
  have hm := maxV_is a y
  refine ⟨by omega, fun x hx => ?_, ?_⟩
  ·rcases List.mem_cons.1 hx with rfl | hx
   ·omega
   ·exact h2 x hx
  ·rcases h3 with h3 | h3
   ·by_cases e : y ≤ a
    ·left; omega
    ·right; rw [h3, hm]; rw [Int.max_eq_right (by omega)]; simp
   ·right; exact List.mem_cons_of_mem _ h3
theorem minL_is {l : List Int} (hne : l ≠ []) : minL l ∈ l ∧ ∀ x ∈ l, minL l ≤ x := by
 cases l with
 | nil => exact absurd rfl hne
 | cons a l =>
  obtain ⟨h1, h2, h3⟩ := foldmin_le l a
  have e0 : minL (a :: l) = l.foldl minV a := rfl
  rw [e0]
  refine ⟨?_, fun x hx => ?_⟩
  ·rcases h3 with h3 | h3
   ·rw [h3]; simp
   ·exact List.mem_cons_of_mem _ h3
  ·rcases List.mem_cons.1 hx with rfl | hx
   ·exact h1
   ·exact h2 x hx
theorem maxL_is {l : List Int} (hne : l ≠ []) : maxL' l ∈ l ∧ ∀ x ∈ l, x ≤ maxL' l := by
 cases l with
 | nil => exact absurd rfl hne
 | cons a l =>
  obtain ⟨h1, h2, h3⟩ := foldmax_le l a
  have e0 : maxL' (a :: l) = l.foldl maxV a := rfl
  rw [e0]
  refine ⟨?_, fun x hx => ?_⟩
  ·rcases h3 with h3 | h3
   ·rw [h3]; simp
   ·exact List.mem_cons_of_mem _ h3
  ·rcases List.mem_cons.1 hx with rfl | hx
   ·exact h1
   ·exact h2 x hx
end Go.AM
