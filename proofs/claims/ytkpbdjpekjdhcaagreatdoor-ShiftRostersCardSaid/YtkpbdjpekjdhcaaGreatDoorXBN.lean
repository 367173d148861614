/-
  A part of the proof: contracts of functions.
-/
import Derived.Test.YtkpbdjpekjdhcaaGreatDoorXAU
import Derived.Test.YtkpbdjpekjdhcaaGreatDoorXAW
set_option linter.unusedSimpArgs false
set_option linter.unusedVariables false
set_option linter.unusedSectionVars false
set_option maxRecDepth 100000
namespace Go.AM
open Go Go.Proofs
open Go.TX (Rm Fa Ha Hs)
variable [Keep]
theorem Sh.what {n : Nat} {xs : List AV} (h : Sh Tryz.prog (n + 1) 50 xs) : ∃ i, xs = [.int .i64 i] := by
 obtain ⟨i, h, _⟩ := Sh.int Tryz.underlying50 h
 exact ⟨i, h⟩
theorem Sh.houseI {n : Nat} {xs : List AV} (h : Sh Tryz.prog (n + 5) 27 xs) : ∃ (ra fa oa ha : AV) (m : Hs), xs = [.int .i64 m.hours, ra, fa, oa, ha] /\ HsI m ra fa oa ha := by
 obtain ⟨ra, fa, oa, ha, m, e, v1, v2, v3, v4⟩ := Sh.house h
 exact ⟨ra, fa, oa, ha, m, e, v1, v2, v3, v4⟩
end Go.AM
