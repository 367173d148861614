/-
  A part of the proof: contracts of functions.
-/
import Derived.Test.YtkpbdjpekjdhcaaGreatDoorXAI
import Derived.Test.YtkpbdjpekjdhcaaGreatDoorXAJ
import Derived.Test.YtkpbdjpekjdhcaaGreatDoorXAG
import Derived.Test.YtkpbdjpekjdhcaaGreatDoorXAH
set_option linter.unusedSimpArgs false
set_option linter.unusedVariables false
set_option linter.unusedSectionVars false
namespace Go.AM
open Go Go.Proofs
variable [Keep]
noncomputable def cS : Itr
 | 122 => some go122
 | 144 => some (flatFnD sp144)
 | 97 => some (flatFnD sp97)
 | 89 => some (pureFn sp89)
 | 171 => some (flatFnD sp171)
 | 143 => some (pureFn sp143)
 | 82 => some (flatFnD sp82)
 | 154 => some (atOnce spItoa)
 | 153 => some spJoin
 | 156 => some (atOnce spSplit)
 | 160 => some (atOnce spCount)
 | 159 => some (pureFn sp159)
 | 34 => some (flatFnD sp34)
 | 102 => some (pureFn sp102)
 | 137 => some (pureFn sp137)
 | 140 => some go140
 | 148 => some go148
 | 104 => some go104
 | 90 => some go90
 | _ => none
theorem cS_sound (hT : TabK Tryz.prog) : Sound (dX cS) := dX_sound (fun f g h => by
 unfold cS at h
 split at h
 ·cases h; exact F122
 ·cases h; exact F144D
 ·cases h; exact F97D
 ·cases h; exact F89
 ·cases h; exact F171D
 ·cases h; exact F143
 ·cases h; exact F82D
 ·cases h; exact F154 hT
 ·cases h; exact F153
 ·cases h; exact F156
 ·cases h; exact F160
 ·cases h; exact F159
 ·cases h; exact F34
 ·cases h; exact F102
 ·cases h; exact F137
 ·cases h; exact F140
 ·cases h; exact F148
 ·cases h; exact F104
 ·cases h; exact F90
 ·cases h)
end Go.AM
