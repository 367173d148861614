/-
  Orders that are proposed.
-/
import Derived.Test.YtlhcjccaimmhgaaGreatDoorFnM
import Derived.Test.YtlhcjccaimmhgaaGreatDoorShared
set_option linter.unusedSectionVars false
set_option linter.unusedVariables false
set_option linter.unusedSimpArgs false
set_option maxRecDepth 100000
namespace Go.AM
open Go Go.Proofs
variable [Keep]
attribute [local irreducible] W WO WO1 WD WQ WT thenQ blockQ endR isRet retK Cl ClR
def befB : List Int → List Int → Bool
  | [], r => !r.isEmpty
  | _ :: _, [] => false
  | a :: l, b :: r => if a = b then befB l r else decide (a < b)
attribute [local irreducible] befB
def ordAt (l : List Int) (many : Int) (i : Nat) : Bool := ((List.range i).all fun k => !(l.getD i 0 == l.getD k 0)) && inB (l.getD i 0) 0 (w64 (many - 1))
def orderB (l : List Int) (many : Int) : Bool := ((List.range l.length).all (ordAt l many)) && ((l.length : Int) == many)
noncomputable def cGG : FuncId → Option (List AV → Heap → Option (AV × Heap))
  | 97 => some (pureFn sp97)
  | _ => none
theorem cGG_sound : Sound (dX cGG) := dX_sound (fun f g h => by
  unfold cGG at h
  split at h
  · cases h; exact F97
  · cases h)
end Go.AM
set_option maxRecDepth 100000
namespace Go.AM
open Go Go.Proofs
variable [Keep]
attribute [local irreducible] W WO WO1 WD WQ WT thenQ blockQ endR isRet retK Cl ClR
attribute [local irreducible] farS againS matchS measB
theorem meas_len {l : List Pt} {off : Int} (h : measB l off = true) : 2 ≤ l.length ∧ l.length ≤ 4 := by
  unfold measB at h
  simp only [allB, inB, Bool.and_eq_true, decide_eq_true_eq] at h
  omega
end Go.AM
set_option maxRecDepth 100000
namespace Go.AM
open Go Go.Proofs
variable [Keep]
attribute [local irreducible] W WO WO1 WD WQ WT thenQ blockQ endR isRet retK Cl ClR
attribute [local irreducible] againS measB orderB
theorem toNat_map (p : List Nat) : (p.map fun k : Nat => (k : Int)).map Int.toNat = p := by
  rw [List.map_map]
  conv => rhs; rw [← List.map_id p]
  rfl
end Go.AM
