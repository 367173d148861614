/-
  A part of the proof: contracts of functions.
-/
import Derived.Test.YtlhcjccaimmhgaaGreatDoorVAL
set_option maxRecDepth 1000000
set_option linter.unusedSimpArgs false
set_option linter.unusedVariables false
set_option linter.unusedSectionVars false
namespace Go.AM
open Go Go.Proofs
def a57_0 : List AV := [.agg [.vslice [.agg [.int .i64 (-4), .int .i64 0], .agg [.int .i64 4, .int .i64 0]], .int .i64 2], .agg [.vslice [.agg [.int .i64 (-4), .int .i64 0], .agg [.int .i64 4, .int .i64 0]], .int .i64 (-1), .int .i64 1, .int .i64 0, .int .i64 0, .int .i64 0, .int .i64 1, .int .i64 0, .int .i64 0, .nilslice], .int .i64 2]
def v57_0 : AV := .tuple [.vslice [.agg [.int .i64 (-5), .int .i64 0], .agg [.int .i64 3, .int .i64 0]], .int .i64 2, .int .i64 0]
theorem run57_0 [Keep] : retIs (callF (dX cZ) (ev (dX cZ) 300) 57 a57_0 emptyHp) v57_0 = true := by kernel_rfl
end Go.AM
