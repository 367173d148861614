/-
  A part of the proof: contracts of functions.
-/
import Derived.Test.YtkpbdjpekjdhcaaGreatDoorXAS
import Derived.Test.YtkpbdjpekjdhcaaGreatDoorXAJ
set_option linter.unusedSectionVars false
set_option linter.unusedVariables false
set_option linter.unusedSimpArgs false
set_option maxRecDepth 100000
namespace Go.AM
open Go Go.Proofs
variable [Keep]
attribute [local irreducible] W WO WO1 WD WQ WT thenQ blockQ endR isRet retK Cl ClR
open Go.TX (Rm Fa Ha Hs)
attribute [local irreducible] runsB madeR madeF drawnP sumW
def rowFit (m : Hs) (g : List (List Int)) (i : Nat) : Bool := (g.getD i []).all fun n => inB n (m.rooms.getD i rm0).lo (m.rooms.getD i rm0).hi
def fitsB (m : Hs) (g : List (List Int)) : Bool := (List.range m.rooms.length).all (rowFit m g)
section
variable {c : Itr}
end
end Go.AM
