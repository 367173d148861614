/-
  A part of the proof: contracts of functions.
-/
import Derived.Test.YtkpbdjpekjdhcaaGreatDoorXBK
import Derived.Test.YtkpbdjpekjdhcaaGreatDoorXBL
set_option linter.unusedSectionVars false
set_option linter.unusedVariables false
set_option linter.unusedSimpArgs false
set_option maxRecDepth 100000
namespace Go.AM
open Go Go.Proofs
variable [Keep]
attribute [local irreducible] W WO WO1 WD WQ WT thenQ blockQ endR isRet retK Cl ClR
open Go.TX (Rm Fa Ha Hs mapO mapO_len)
attribute [local irreducible] roundQ RdR houseB pathB airS failsH hasB allP
theorem Blt.lp {h hq : Heap} {v : AV} {sz L : Nat} {l : List AV} (b : Blt h v sz l) (nr : ∀ z r, h.get L ≠ some (.rw z r)) (hn : hq.next = h.next) (hg : ∀ j, j ≠ L -> hq.get j = h.get j) : Blt hq v sz l := by
 rcases b with q | ⟨id, q1, q2, q3, q4⟩
 ·exact .inl q
 ·exact .inr ⟨id, q1, (hg id (fun e => nr _ _ (e ▸ q2))).trans q2, by rw [hn]; exact q3, q4⟩
section
variable {c : Itr}
end
section
variable {c : Itr}
end
end Go.AM
