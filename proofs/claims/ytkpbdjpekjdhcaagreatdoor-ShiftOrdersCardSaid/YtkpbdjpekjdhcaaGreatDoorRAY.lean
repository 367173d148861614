/-
  A part of the proof: contracts of functions.
-/
import Derived.Test.YtkpbdjpekjdhcaaGreatDoorRAX
set_option linter.unusedSectionVars false
set_option linter.unusedVariables false
set_option linter.unusedSimpArgs false
set_option maxRecDepth 100000
namespace Go.AM
open Go Go.Proofs
variable [Keep]
attribute [local irreducible] W WO WO1 WD WQ WT thenQ blockQ endR isRet retK Cl ClR
open Go.TX (Rm Fa Ha Hs)
attribute [local irreducible] runsB madeR madeF drawnP sumW rowF nowF
def shapeB (m : Hs) (g : List (List Int)) : Bool := ((g.length : Int) == m.rooms.length) && !(g.any fun r => (r.length : Int) != m.hours)
def sp126 : List AV → Option AV
 | [x, dv] => match hsV x, lisV dv with
  | some m, some g => some (.bool (shapeB m g))
  | _, _ => none
 | _ => none
end Go.AM
