/-
  A part of the proof: contracts of functions.
-/
import Derived.Test.YtkpbdjpekjdhcaaGreatDoorTBD
set_option linter.unusedSectionVars false
set_option linter.unusedVariables false
set_option linter.unusedSimpArgs false
set_option maxRecDepth 100000
namespace Go.AM
open Go Go.Proofs
variable [Keep]
attribute [local irreducible] W WO WO1 WD WQ WT thenQ blockQ endR isRet retK Cl ClR
open Go.TX (Rm Fa Ha Hs)
attribute [local irreducible] houseB airS lowsA highsA failsH
def rstP (n k r : Nat) : List Int := (List.replicate n (-1)).set k (r : Int)
def rowK (m : Hs) (nn r : Nat) : Nat → List (Int × Int)
 | 0 => []
 | k + 1 => rowK m nn r k ++ [airS m (rstP nn k r)]
def knG (m : Hs) (nn : Nat) : Nat → List (List (Int × Int))
 | 0 => []
 | r + 1 => knG m nn r ++ [rowK m nn r nn]
theorem rowK_len (m : Hs) (nn r : Nat) : ∀ k, (rowK m nn r k).length = k := by
 intro k
 induction k with
 | zero => rfl
 | succ k ih => simp [rowK, ih]
theorem knG_len (m : Hs) (nn : Nat) : ∀ k, (knG m nn k).length = k := by
 intro k
 induction k with
 | zero => rfl
 | succ k ih => simp [knG, ih]
theorem spanE_app (l : List (Int × Int)) (p : Int × Int) : spanE (l ++ [p]) = spanE l ++ [.agg [.int .i64 p.1, .int .i64 p.2]] := by simp [spanE, spC]
theorem rest_path {m : Hs} (ho : HOk m) {nn : Nat} (hnn : m.hours = nn) {k r : Nat} (hr : r < m.rooms.length) : pathB m (rstP nn k r) = true := by
 have h3 := ho.rooms
 unfold pathB rstP
 simp only [List.length_set, List.length_replicate, Bool.and_eq_true, beq_iff_eq, List.all_eq_true]
 refine ⟨hnn.symm, fun x hx => ?_⟩
 rw [w64_small (by omega) (by omega), inB_iff]
 rcases List.mem_or_eq_of_mem_set hx with h | h
 ·have := (List.mem_replicate.1 h).2
  omega
 ·omega
theorem spans_map (g : List (List (Int × Int))) : slN ((g.map spanE).map slN) = slN (spansE g) := by unfold spansE; rw [List.map_map]; rfl
end Go.AM
