/-
  A part of the proof: contracts of functions.
-/
import Derived.Test.YtlhcjccaimmhgaaGreatDoorVXLF
set_option maxRecDepth 100000
namespace Go.Proofs.YtlhcjccaimmhgaaGreatDoor
open Go
theorem main_ok : Tryz.prog.mainIs = some (true, "b61a08fa8ce36e10ae208529fc07d9da226449fa0c1a03ee5c8317728ea357ba".toList) := by
 unfold Program.mainIs
 rw [head_is, String.toList_ofList]
 kernel_rfl
theorem looks_ok : true = Tryz.prog.looks [] := by kernel_rfl
theorem rowed : mapsRowed Tryz.prog = true := by kernel_rfl
theorem and_mk {a b : Bool} (h : a = true) (k : b = true) : (a && b) = true := by rw [h, k]; rfl
end Go.Proofs.YtlhcjccaimmhgaaGreatDoor
