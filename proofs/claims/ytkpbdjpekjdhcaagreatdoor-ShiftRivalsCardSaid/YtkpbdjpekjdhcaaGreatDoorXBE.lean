/-
  A part of the proof: contracts of functions.
-/
import Derived.Test.YtkpbdjpekjdhcaaGreatDoorXBD
set_option linter.unusedSectionVars false
set_option linter.unusedVariables false
set_option linter.unusedSimpArgs false
set_option maxRecDepth 100000
namespace Go.AM
open Go Go.Proofs
variable [Keep]
attribute [local irreducible] W WO WO1 WD WQ WT thenQ blockQ endR isRet retK Cl ClR
open Go.TX (Rm Fa Ha Hs mapO mapO_len)
attribute [local irreducible] houseB lowG highG failsH
def lowsA (m : Hs) (l : List Fl) : List AV := l.map fun f => slN (rowsE (lowG m f))
def highsA (m : Hs) (l : List Fl) : List AV := l.map fun f => slN (rowsE (highG m f))
def airE (m : Hs) : AV := .agg [slN (fksE (failsH m)), slN (lowsA m (failsH m)), slN (highsA m (failsH m))]
def sp55 : List AV -> Option AV
 | [x] => match hsV x with
  | some m => if houseB m = true then some (airE m) else none
  | none => none
 | _ => none
theorem high_lis {m : Hs} (ho : HOk m) (f : Fl) : lisV (slN (rowsE (highG m f))) = some (highG m f) := by
 have hr := ho.rooms
 have hh := ho.hours
 have q := high_ok ho f
 exact rows_lis (by rw [q.len]; unfold maxL; omega) fun l hl => by rw [q.row l hl]; unfold maxL; omega
section
variable {c : Itr}
end
end Go.AM
