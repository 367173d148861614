/-
  A part of the proof: contracts of functions.
-/
import Derived.Test.YtkpbdjpekjdhcaaGreatDoorXBC
set_option linter.unusedSectionVars false
set_option linter.unusedVariables false
set_option linter.unusedSimpArgs false
set_option maxRecDepth 100000
namespace Go.AM
open Go Go.Proofs
variable [Keep]
attribute [local irreducible] W WO WO1 WD WQ WT thenQ blockQ endR isRet retK Cl ClR
open Go.TX (Rm Fa Ha Hs mapO mapO_len)
attribute [local irreducible] houseB
def endN (m : Hs) (b : Bool) (r : Nat) : Int := if b = true then (m.rooms.getD r rm0).hi else (m.rooms.getD r rm0).lo
def endL (m : Hs) (b : Bool) (nn : Nat) : Nat -> List (List Int)
 | 0 => []
 | r + 1 => endL m b nn r ++ [List.replicate nn (endN m b r)]
theorem Blt2.cells {h : Heap} {v : AV} {sz : Nat} {ls : List (List AV)} (q : Blt2 h v sz ls) : v.cells = [v] /\ isTuple v = false := by
 obtain ⟨el, b, _⟩ := q
 exact ⟨b.cells, b.tup⟩
end Go.AM
