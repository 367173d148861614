/-
    A part of the proof: contracts of functions.
-/
import Derived.Test.YtgihdicidaipmaaGreatDoorTXGVF
set_option maxRecDepth 100000
namespace Go.Proofs.YtgihdicidaipmaaGreatDoor
open Go
theorem main_ok:Tryz.prog.mainIs=some (true,"9f6af659d51eecd5ef0b7864e638dd6f75901458c8e0d6a7a601de42b21bca61".toList):=by
 unfold Program.mainIs;rw[head_is,String.toList_ofList]
 kernel_rfl
theorem looks_ok:true=Tryz.prog.looks []:=by kernel_rfl
theorem rowed:mapsRowed Tryz.prog=true:=by kernel_rfl
theorem and_mk{a b:Bool}(h:a=true)(k:b=true):(a&&b)=true:=by rw[h,k];rfl
end Go.Proofs.YtgihdicidaipmaaGreatDoor
