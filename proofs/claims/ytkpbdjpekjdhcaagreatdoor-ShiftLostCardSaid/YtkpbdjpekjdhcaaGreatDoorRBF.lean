/-
  A part of the proof: contracts of functions.
-/
import Derived.Test.YtkpbdjpekjdhcaaGreatDoorRBE
import Derived.Test.YtkpbdjpekjdhcaaGreatDoorRAD
set_option linter.unusedSectionVars false
set_option linter.unusedVariables false
set_option linter.unusedSimpArgs false
set_option maxRecDepth 100000
namespace Go.AM
open Go Go.Proofs
variable [Keep]
attribute [local irreducible] W WO WO1 WD WQ WT thenQ blockQ endR isRet retK Cl ClR
open Go.TX (Rm Fa Ha Hs mapO mapO_len)
attribute [local irreducible] houseB lowG highG failsH
theorem end_lis {m : Hs} (ho : HOk m) (b : Bool) : lisV (slN (rowsE (endL m b m.hours.toNat m.rooms.length))) = some (endL m b m.hours.toNat m.rooms.length) := by
 have hr := ho.rooms
 have hh := ho.hours
 refine rows_lis (by rw [endL_len]; unfold maxL; omega) fun l hl => ?_
 obtain ⟨k, hk, rfl⟩ := List.getElem_of_mem hl
 have := endL_get m b m.hours.toNat (R := m.rooms.length) (r := k) (by rw [endL_len] at hk; exact hk)
 rw [List.getElem?_eq_getElem hk] at this
 rw [Option.some.inj this, List.length_replicate]
 unfold maxL; omega
theorem high_lis {m : Hs} (ho : HOk m) (f : Fl) : lisV (slN (rowsE (highG m f))) = some (highG m f) := by
 have hr := ho.rooms
 have hh := ho.hours
 have q := high_ok ho f
 exact rows_lis (by rw [q.len]; unfold maxL; omega) fun l hl => by rw [q.row l hl]; unfold maxL; omega
section
variable {c : Itr}
end
end Go.AM
namespace Go.AM
open Go
variable [Keep]
theorem WO1.gund {X : Ctx} {ops : Array Oper} {K P : AV → Fr → Prop} {F : Fr} {d : Option Tmp} {op : Op} {T : TypeId} {p : String} {af : Array Edge} {j : Nat} {want : Bool} {o : Oper} {t : Tmp} (ho : ops[j]? = some o) (ht : o.dst = some t) (hb : F.e.get t = some undefA) (h : K undefA (F.put d undefA)) : WO1 X ops ⟨d, op, T, p, af, some (j, want)⟩ F K P :=
 ⟨.val undefA (F.put d undefA), ⟨0, fun m _ => by simp [stepOp, guardOk, wantedA, yieldedA, ho, ht, hb, undefA]⟩, h⟩
end Go.AM
