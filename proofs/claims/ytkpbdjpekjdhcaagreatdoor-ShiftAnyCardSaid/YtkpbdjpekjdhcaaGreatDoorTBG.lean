/-
  A part of the proof: contracts of functions.
-/
import Derived.Test.YtkpbdjpekjdhcaaGreatDoorTBE
import Derived.Test.YtkpbdjpekjdhcaaGreatDoorTBD
import Derived.Test.YtkpbdjpekjdhcaaGreatDoorTBF
set_option linter.unusedSectionVars false
set_option linter.unusedVariables false
set_option linter.unusedSimpArgs false
set_option maxRecDepth 100000
namespace Go.AM
open Go Go.Proofs
variable [Keep]
attribute [local irreducible] W WO WO1 WD WQ WT thenQ blockQ endR isRet retK Cl ClR
open Go.TX (Rm Fa Ha Hs mapO mapO_len)
attribute [local irreducible] hasB metF houseB failsH highG lowG brV brG
theorem count_fold (x : Int) : ∀ (l : List Int) (n : Nat), n + l.length ≤ 1000 → l.foldl (fun (n : Int) y => if (y == x) = true then w64 (n + 1) else n) (n : Int) = ((n + l.count x : Nat) : Int)
 | [], n, _ => by simp
 | a :: l, n, h => by
  simp only [List.length_cons] at h
  rw [List.foldl_cons, List.count_cons]
  cases e : (a == x) with
  | true =>
   simp only [if_true]
   have e1 : w64 ((n : Int) + 1) = ((n + 1 : Nat) : Int) := by rw [w64_small (by omega) (by omega)]; omega
   rw [e1, count_fold x l (n + 1) (by omega)]
   congr 1
   omega
  | false =>
   simp only [Bool.false_eq_true, if_false]
   rw [count_fold x l n (by omega)]
   congr 1
attribute [local irreducible] pathB airS
end Go.AM
