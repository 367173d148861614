/-
  A part of the proof: contracts of functions.
-/
import Derived.Test.YtkpbdjpekjdhcaaGreatDoorXAM
set_option maxRecDepth 1000000
set_option linter.unusedSimpArgs false
set_option linter.unusedVariables false
set_option linter.unusedSectionVars false
namespace Go.AM
open Go Go.Proofs
theorem rq31_1622 [Keep] : partChk (callF (dX cS) (ev (dX cS) 300) 31 q31_1622.args (partHp q31_1622.next q31_1622.hp)) q31_1622 = true := by kernel_rfl
theorem rq36_1726 [Keep] : partChk (callF (dX cS) (ev (dX cS) 300) 36 q36_1726.args (partHp q36_1726.next q36_1726.hp)) q36_1726 = true := by kernel_rfl
end Go.AM
