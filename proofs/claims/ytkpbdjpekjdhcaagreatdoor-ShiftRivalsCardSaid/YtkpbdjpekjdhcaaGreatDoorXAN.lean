/-
  A part of the proof: contracts of functions.
-/
import Derived.Test.YtkpbdjpekjdhcaaGreatDoorXAM
set_option maxRecDepth 1000000
set_option linter.unusedSimpArgs false
set_option linter.unusedVariables false
set_option linter.unusedSectionVars false
namespace Go.AM
open Go Go.Proofs
theorem rq23_0 [Keep] : partChk (callF (dX cS) (ev (dX cS) 300) 23 q23_0.args (partHp q23_0.next q23_0.hp)) q23_0 = true := by kernel_rfl
theorem rq45_47 [Keep] : partChk (callF (dX cS) (ev (dX cS) 300) 45 q45_47.args (partHp q45_47.next q45_47.hp)) q45_47 = true := by kernel_rfl
theorem rq46_124 [Keep] : partChk (callF (dX cS) (ev (dX cS) 300) 46 q46_124.args (partHp q46_124.next q46_124.hp)) q46_124 = true := by kernel_rfl
theorem rq91_321 [Keep] : partChk (callF (dX cS) (ev (dX cS) 300) 91 q91_321.args (partHp q91_321.next q91_321.hp)) q91_321 = true := by kernel_rfl
theorem rq91_464 [Keep] : partChk (callF (dX cS) (ev (dX cS) 300) 91 q91_464.args (partHp q91_464.next q91_464.hp)) q91_464 = true := by kernel_rfl
end Go.AM
