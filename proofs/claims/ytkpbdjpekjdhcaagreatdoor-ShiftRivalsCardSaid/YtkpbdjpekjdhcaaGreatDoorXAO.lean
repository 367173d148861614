/-
  A part of the proof: contracts of functions.
-/
import Derived.Test.YtkpbdjpekjdhcaaGreatDoorXAM
set_option maxRecDepth 1000000
set_option linter.unusedSimpArgs false
set_option linter.unusedVariables false
set_option linter.unusedSectionVars false
namespace Go.AM
open Go Go.Proofs
theorem rq91_592 [Keep] : partChk (callF (dX cS) (ev (dX cS) 300) 91 q91_592.args (partHp q91_592.next q91_592.hp)) q91_592 = true := by kernel_rfl
theorem rq91_714 [Keep] : partChk (callF (dX cS) (ev (dX cS) 300) 91 q91_714.args (partHp q91_714.next q91_714.hp)) q91_714 = true := by kernel_rfl
theorem rq91_836 [Keep] : partChk (callF (dX cS) (ev (dX cS) 300) 91 q91_836.args (partHp q91_836.next q91_836.hp)) q91_836 = true := by kernel_rfl
theorem rq91_958 [Keep] : partChk (callF (dX cS) (ev (dX cS) 300) 91 q91_958.args (partHp q91_958.next q91_958.hp)) q91_958 = true := by kernel_rfl
end Go.AM
