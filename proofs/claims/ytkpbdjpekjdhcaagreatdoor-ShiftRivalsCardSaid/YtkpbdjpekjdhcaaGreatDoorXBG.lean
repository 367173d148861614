/-
  A part of the proof: contracts of functions.
-/
import Derived.Test.YtkpbdjpekjdhcaaGreatDoorXAZ
import Derived.Test.YtkpbdjpekjdhcaaGreatDoorXBE
import Derived.Test.YtkpbdjpekjdhcaaGreatDoorXBF
import Derived.Test.YtkpbdjpekjdhcaaGreatDoorXAD
set_option linter.unusedSectionVars false
set_option linter.unusedVariables false
set_option linter.unusedSimpArgs false
set_option maxRecDepth 100000
namespace Go.AM
open Go Go.Proofs
variable [Keep]
attribute [local irreducible] W WO WO1 WD WQ WT thenQ blockQ endR isRet retK Cl ClR
open Go.TX (Rm Fa Ha Hs)
def O16 (out : List Int) : Prop := ∀ x ∈ out, 0 <= x /\ x < 16
theorem O16.at {out : List Int} (h : O16 out) (j : Nat) : 0 <= out.getD j 0 /\ out.getD j 0 < 16 := by
 cases hq : out[j]? with
 | none => simp [List.getD, hq]
 | some x =>
  have := h x (List.mem_of_getElem? hq)
  simpa [List.getD, hq] using this
theorem O16.set {out : List Int} (h : O16 out) (j : Nat) {x : Int} (hx : 0 <= x /\ x < 16) : O16 (out.set j x) := fun y hy => by
 rcases List.mem_or_eq_of_mem_set hy with q | q
 ·exact h y q
 ·rw [q]; exact hx
theorem z3 : zeroT Tryz.prog 3 = some (.int .i64 0) := by kernel_rfl
theorem ints_set (l : List Int) (j : Nat) (x : Int) : (intsE l).set j (.int .i64 x) = intsE (l.set j x) := by unfold intsE; rw [List.map_set]
theorem row_idx {id n j : Nat} {hp : Heap} {el : List AV} (hg : hp.get id = some (.rw 1 el)) (hj : j < n) : indexAddrV Tryz.prog hp 24 (.row id 0 n) (.int .i64 (j : Int)) = some (.eptr id 1 j 0) := by
 have hi : idxV (.int .i64 (j : Int)) n = some j := by
  simp only [idxV]
  rw [if_pos (by constructor <;> omega)]
  simp
 simp only [indexAddrV, Tryz.underlying24, ty_lay3, hi, hg, if_true, Nat.zero_add]
attribute [local irreducible] houseB pathB airS failsH hasB allP orI bitI
section
variable {c : Itr}
end
end Go.AM
namespace Go.AM
open Go
variable [Keep]
theorem WO1.gund {X : Ctx} {ops : Array Oper} {K P : AV -> Fr -> Prop} {F : Fr} {d : Option Tmp} {op : Op} {T : TypeId} {p : String} {af : Array Edge} {j : Nat} {want : Bool} {o : Oper} {t : Tmp} (ho : ops[j]? = some o) (ht : o.dst = some t) (hb : F.e.get t = some undefA) (h : K undefA (F.put d undefA)) : WO1 X ops ⟨d, op, T, p, af, some (j, want)⟩ F K P :=
 ⟨.val undefA (F.put d undefA), ⟨0, fun m _ => by simp [stepOp, guardOk, wantedA, yieldedA, ho, ht, hb, undefA]⟩, h⟩
end Go.AM
