/-
  A part of the proof: contracts of functions.
-/
import Derived.Test.YtkpbdjpekjdhcaaGreatDoorXAM
set_option maxRecDepth 1000000
set_option linter.unusedSimpArgs false
set_option linter.unusedVariables false
set_option linter.unusedSectionVars false
namespace Go.AM
open Go Go.Proofs
theorem rq91_1087 [Keep] : partChk (callF (dX cS) (ev (dX cS) 300) 91 q91_1087.args (partHp q91_1087.next q91_1087.hp)) q91_1087 = true := by kernel_rfl
theorem rq91_1338 [Keep] : partChk (callF (dX cS) (ev (dX cS) 300) 91 q91_1338.args (partHp q91_1338.next q91_1338.hp)) q91_1338 = true := by kernel_rfl
theorem rq91_1467 [Keep] : partChk (callF (dX cS) (ev (dX cS) 300) 91 q91_1467.args (partHp q91_1467.next q91_1467.hp)) q91_1467 = true := by kernel_rfl
end Go.AM
