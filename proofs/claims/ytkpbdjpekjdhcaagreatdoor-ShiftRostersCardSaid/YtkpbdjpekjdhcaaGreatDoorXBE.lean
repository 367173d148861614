/-
  A part of the proof: contracts of functions.
-/
import Derived.Test.YtkpbdjpekjdhcaaGreatDoorXAX
import Derived.Test.YtkpbdjpekjdhcaaGreatDoorXBC
import Derived.Test.YtkpbdjpekjdhcaaGreatDoorXBD
set_option linter.unusedSectionVars false
set_option linter.unusedVariables false
set_option linter.unusedSimpArgs false
set_option maxRecDepth 100000
namespace Go.AM
open Go Go.Proofs
variable [Keep]
attribute [local irreducible] W WO WO1 WD WQ WT thenQ blockQ endR isRet retK Cl ClR
open Go.TX (Rm Fa Ha Hs)
def O16 (out : List Int) : Prop := ∀ x ∈ out, 0 <= x /\ x < 16
theorem O16.at {out : List Int} (h : O16 out) (j : Nat) : 0 <= out.getD j 0 /\ out.getD j 0 < 16 := by
 cases hq : out[j]? with
 | none => simp [List.getD, hq]
 | some x =>
  have := h x (List.mem_of_getElem? hq)
  simpa [List.getD, hq] using this
theorem O16.set {out : List Int} (h : O16 out) (j : Nat) {x : Int} (hx : 0 <= x /\ x < 16) : O16 (out.set j x) := fun y hy => by
 rcases List.mem_or_eq_of_mem_set hy with q | q
 ·exact h y q
 ·rw [q]; exact hx
theorem z3 : zeroT Tryz.prog 3 = some (.int .i64 0) := by kernel_rfl
theorem ints_set (l : List Int) (j : Nat) (x : Int) : (intsE l).set j (.int .i64 x) = intsE (l.set j x) := by unfold intsE; rw [List.map_set]
theorem row_idx {id n j : Nat} {hp : Heap} {el : List AV} (hg : hp.get id = some (.rw 1 el)) (hj : j < n) : indexAddrV Tryz.prog hp 24 (.row id 0 n) (.int .i64 (j : Int)) = some (.eptr id 1 j 0) := by
 have hi : idxV (.int .i64 (j : Int)) n = some j := by
  simp only [idxV]
  rw [if_pos (by constructor <;> omega)]
  simp
 simp only [indexAddrV, Tryz.underlying24, ty_lay3, hi, hg, if_true, Nat.zero_add]
attribute [local irreducible] houseB pathB airS failsH hasB allP orI bitI
section
variable {c : Itr}
end
theorem intsE_pur' (l : List Int) : (slN (intsE l)).pur = true := (slN_is _).pur fun x hx => by
 obtain ⟨n, _, rfl⟩ := List.mem_map.1 hx
 rfl
end Go.AM
