/-
    A part of the proof: contracts of functions.
-/
import Derived.Test.YtgihdicidaipmaaGreatDoorTAT
import Derived.Test.YtgihdicidaipmaaGreatDoorTAR
set_option linter.unusedVariables false
set_option linter.unusedSimpArgs false
set_option linter.unusedSectionVars false
namespace Go.AM
open Go Go.Proofs
open Go.Mo7 (preT preP lexB bestW)
variable[Keep]
def bfrB:List Int->List Int->Bool
 |x::l,y::r=>if x=y then bfrB l r else decide (x<y)
 | [],_::_=>true
 |_,_=>false
end Go.AM
