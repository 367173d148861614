/-
  A part of the proof: contracts of functions.
-/
import Derived.Test.YtlhcjccaimmhgaaGreatDoorVAL
set_option maxRecDepth 1000000
set_option linter.unusedSimpArgs false
set_option linter.unusedVariables false
set_option linter.unusedSectionVars false
namespace Go.AM
open Go Go.Proofs
def a34_0 : List AV := [.agg [.vslice [.agg [.int .i64 (-4), .int .i64 0], .agg [.int .i64 4, .int .i64 0]], .int .i64 2], .vslice [.agg [.int .i64 5, .int .i64 1], .agg [.int .i64 (-3), .int .i64 1]]]
def v34_0 : AV := .tuple [.int .i64 0, .vslice [.int .i64 1, .int .i64 0], .int .i64 0]
theorem run34_0 [Keep] : retIs (callF (dX cZ) (ev (dX cZ) 300) 34 a34_0 emptyHp) v34_0 = true := by kernel_rfl
end Go.AM
namespace Go.AM
open Go Go.Proofs
def a39_0 : List AV := [.agg [.vslice [.agg [.int .i64 (-4), .int .i64 0], .agg [.int .i64 4, .int .i64 0]], .int .i64 (-1), .int .i64 1, .int .i64 0, .int .i64 0, .int .i64 0, .int .i64 1, .int .i64 0, .int .i64 0, .vslice [.agg [.int .i64 2, .int .i64 0, .int .i64 0, .int .i64 0]]], .int .i64 5]
def v39_0 : AV := .tuple [.agg [.int .i64 0, .int .i64 3], .agg [.int .i64 0, .int .i64 0], .int .i64 0]
theorem run39_0 [Keep] : retIs (callF (dX cZ) (ev (dX cZ) 300) 39 a39_0 emptyHp) v39_0 = true := by kernel_rfl
end Go.AM
namespace Go.AM
open Go Go.Proofs
def a43_0 : List AV := [.agg [.vslice [.agg [.int .i64 (-4), .int .i64 0], .agg [.int .i64 4, .int .i64 0]], .int .i64 2], .agg [.vslice [.agg [.int .i64 (-4), .int .i64 0], .agg [.int .i64 4, .int .i64 0]], .int .i64 (-1), .int .i64 1, .int .i64 0, .int .i64 0, .int .i64 0, .int .i64 1, .int .i64 0, .int .i64 0, .nilslice], .int .i64 2]
def v43_0 : AV := .tuple [.int .i64 2, .int .i64 0]
theorem run43_0 [Keep] : retIs (callF (dX cZ) (ev (dX cZ) 300) 43 a43_0 emptyHp) v43_0 = true := by kernel_rfl
end Go.AM
namespace Go.AM
open Go Go.Proofs
def a46_0 : List AV := [.agg [.vslice [.agg [.int .i64 (-4), .int .i64 0], .agg [.int .i64 4, .int .i64 0]], .int .i64 2], .agg [.vslice [.agg [.int .i64 (-4), .int .i64 0], .agg [.int .i64 4, .int .i64 0]], .int .i64 (-1), .int .i64 1, .int .i64 0, .int .i64 0, .int .i64 0, .int .i64 1, .int .i64 0, .int .i64 0, .vslice [.agg [.int .i64 2, .int .i64 0, .int .i64 0, .int .i64 0]]]]
def v46_0 : AV := .tuple [.int .i64 4, .int .i64 0]
theorem run46_0 [Keep] : retIs (callF (dX cZ) (ev (dX cZ) 300) 46 a46_0 emptyHp) v46_0 = true := by kernel_rfl
end Go.AM
namespace Go.AM
open Go Go.Proofs
def a82_0 : List AV := [.agg [.vslice [.agg [.int .i64 (-4), .int .i64 0], .agg [.int .i64 4, .int .i64 0]], .int .i64 (-1), .int .i64 1, .int .i64 0, .int .i64 0, .int .i64 0, .int .i64 1, .int .i64 0, .int .i64 0, .nilslice]]
def v82_0 : AV := .tuple [.str [109, 97, 99, 104, 105, 110, 101, 32, 50, 32, 48, 10, 115, 116, 111, 112, 32, 45, 52, 32, 48, 10, 115, 116, 111, 112, 32, 52, 32, 48, 10, 99, 104, 117, 99, 107, 32, 45, 49, 32, 49, 32, 48, 32, 48, 10, 119, 101, 97, 114, 32, 48, 32, 49, 32, 48, 32, 48, 10, 101, 110, 100, 32, 48, 53, 57, 10], .int .i64 0]
theorem run82_0 [Keep] : retIs (callF (dX cZ) (ev (dX cZ) 300) 82 a82_0 emptyHp) v82_0 = true := by kernel_rfl
end Go.AM
