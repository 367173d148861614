/-
  A part of the proof: contracts of functions.
-/
import Derived.Test.YtkpbdjpekjdhcaaGreatDoorXXVF
set_option maxRecDepth 100000
namespace Go.Proofs.YtkpbdjpekjdhcaaGreatDoor
open Go
theorem main_ok : Tryz.prog.mainIs = some (true, "3790dbe7c969a99d29e58b9f33dbbd4b1fc1d34e5e69bc51fcfea29329c8fa80".toList) := by
 unfold Program.mainIs
 rw [head_is, String.toList_ofList]
 kernel_rfl
theorem looks_ok : true = Tryz.prog.looks [] := by kernel_rfl
theorem rowed : mapsRowed Tryz.prog = true := by kernel_rfl
theorem and_mk {a b : Bool} (h : a = true) (k : b = true) : (a && b) = true := by rw [h, k]; rfl
end Go.Proofs.YtkpbdjpekjdhcaaGreatDoor
