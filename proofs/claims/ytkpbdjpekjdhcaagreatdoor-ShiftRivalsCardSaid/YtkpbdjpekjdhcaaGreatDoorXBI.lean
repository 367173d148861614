/-
  A part of the proof: contracts of functions.
-/
import Derived.Test.YtkpbdjpekjdhcaaGreatDoorXBE
set_option linter.unusedSectionVars false
set_option linter.unusedVariables false
set_option linter.unusedSimpArgs false
set_option maxRecDepth 100000
namespace Go.AM
open Go Go.Proofs
variable [Keep]
attribute [local irreducible] W WO WO1 WD WQ WT thenQ blockQ endR isRet retK Cl ClR
open Go.TX (Rm Fa Ha Hs)
attribute [local irreducible] runsB drawnP sumW nowF rowF
theorem foldmax_le : ∀ (l : List Int) (a : Int), a <= l.foldl maxV a /\ (∀ x ∈ l, x <= l.foldl maxV a) /\ (l.foldl maxV a = a \/ l.foldl maxV a ∈ l)
 | [], a => by simp
 | y :: l, a => by
  obtain ⟨h1, h2, h3⟩ := foldmax_le l (maxV a y)
  rw [List.foldl_cons]
  have hm := maxV_is a y
  refine ⟨by omega, fun x hx => ?_, ?_⟩
  ·rcases List.mem_cons.1 hx with rfl | hx
   ·omega
   ·exact h2 x hx
  ·rcases h3 with h3 | h3
   ·by_cases e : y <= a
    ·left; omega
    ·right; rw [h3, hm]; rw [Int.max_eq_right (by omega)]; simp
   ·right; exact List.mem_cons_of_mem _ h3
theorem maxL_is {l : List Int} (hne : l ≠ []) : maxL' l ∈ l /\ ∀ x ∈ l, x <= maxL' l := by
 cases l with
 | nil => exact absurd rfl hne
 | cons a l =>
  obtain ⟨h1, h2, h3⟩ := foldmax_le l a
  have e0 : maxL' (a :: l) = l.foldl maxV a := rfl
  rw [e0]
  refine ⟨?_, fun x hx => ?_⟩
  ·rcases h3 with h3 | h3
   ·rw [h3]; simp
   ·exact List.mem_cons_of_mem _ h3
  ·rcases List.mem_cons.1 hx with rfl | hx
   ·exact h1
   ·exact h2 x hx
end Go.AM
