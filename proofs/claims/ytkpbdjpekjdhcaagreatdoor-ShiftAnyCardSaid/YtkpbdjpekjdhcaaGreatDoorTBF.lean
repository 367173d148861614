/-
  A part of the proof: contracts of functions.
-/
import Derived.Test.YtkpbdjpekjdhcaaGreatDoorTAZ
import Derived.Test.YtkpbdjpekjdhcaaGreatDoorTBD
import Derived.Test.YtkpbdjpekjdhcaaGreatDoorTBE
import Derived.Test.YtkpbdjpekjdhcaaGreatDoorTAD
set_option linter.unusedSectionVars false
set_option linter.unusedVariables false
set_option linter.unusedSimpArgs false
set_option maxRecDepth 100000
namespace Go.AM
open Go Go.Proofs
variable [Keep]
attribute [local irreducible] W WO WO1 WD WQ WT thenQ blockQ endR isRet retK Cl ClR
open Go.TX (Rm Fa Ha Hs)
def O16 (out : List Int) : Prop := ∀ x ∈ out, 0 ≤ x ∧ x < 16
theorem O16.at {out : List Int} (h : O16 out) (j : Nat) : 0 ≤ out.getD j 0 ∧ out.getD j 0 < 16 := by
 cases hq : out[j]? with
 | none => simp [List.getD, hq]
 | some x =>
  have := h x (List.mem_of_getElem? hq)
  simpa [List.getD, hq] using this
theorem O16.set {out : List Int} (h : O16 out) (j : Nat) {x : Int} (hx : 0 ≤ x ∧ x < 16) : O16 (out.set j x) := fun y hy => by
 rcases List.mem_or_eq_of_mem_set hy with q | q
 ·exact h y q
 ·rw [q]; exact hx
theorem z3 : zeroT Tryz.prog 3 = some (.int .i64 0) := by kernel_rfl
theorem mk24 {f : FuncId} {rnd : Bool} {e : Mp AV} {lm : Mp (Nat × List AV)} {hp : Heap} {df : List (AV × List AV)} {up : Option (AV × Bool)} {l c : Operand} {n : Nat} (h1 : (Fr.mk f rnd e lm hp df up).opv l = some (.int .i64 n)) (h2 : (Fr.mk f rnd e lm hp df up).opv c = some (.int .i64 n)) (hn : n ≤ 4) :
  (Fr.mk f rnd e lm hp df up).makeSliceE Tryz.prog 24 l c = .val (.row hp.next 0 n) (Fr.mk f rnd e lm (hp.new (.rw 1 (List.replicate n (.int .i64 0)))) df up) := by
 have e1 : elemT Tryz.prog 24 = some 3 := by kernel_rfl
 have e2 : szT Tryz.prog 3 = 1 := by kernel_rfl
 obtain ⟨i, e3, e4⟩ : ∃ i, Tryz.prog.info? 3 = some i ∧ i.bytes ≤ 65536 := by
  have : (match Tryz.prog.info? 3 with | some i => decide (i.bytes ≤ 65536) | none => false) = true := by kernel_rfl
  cases h : Tryz.prog.info? 3 with
  | none => rw [h] at this; cases this
  | some i => rw [h] at this; exact ⟨i, rfl, by simpa using this⟩
 have e5 : (0 : Int) ≤ n ∧ (n : Int) ≤ n ∧ (n : Int) ≤ most ∧ i.bytes ≤ 65536 ∧ (AV.int .i64 0).cells.length = 1 ∧ isTuple (.int .i64 0) = false ∧ 1 ≠ 0 := by
  refine ⟨by omega, by omega, by unfold most; omega, e4, rfl, rfl, by omega⟩
 unfold Fr.makeSliceE
 simp only [e1, h1, h2, z3, e3, e2, e5, and_self, if_true, Int.toNat_natCast, ne_eq, not_false_eq_true]
theorem WO1.make24 {c0 : Itr} {ops : Array Oper} {K P : AV → Fr → Prop} {f : FuncId} {rnd : Bool} {e : Mp AV} {lm : Mp (Nat × List AV)} {hp : Heap} {df : List (AV × List AV)} {up : Option (AV × Bool)} {d : Option Tmp} {T : TypeId} {p : String} {af : Array Edge} {l c : Operand} {n : Nat}
  (h1 : (Fr.mk f rnd e lm hp df up).opv l = some (.int .i64 n)) (h2 : (Fr.mk f rnd e lm hp df up).opv c = some (.int .i64 n)) (hn : n ≤ 4)
  (h : K (.row hp.next 0 n) ((Fr.mk f rnd e lm (hp.new (.rw 1 (List.replicate n (.int .i64 0)))) df up).put d (.row hp.next 0 n))) : WO1 (dX c0) ops ⟨d, .makeSlice 24 l c, T, p, af, none⟩ (Fr.mk f rnd e lm hp df up) K P :=
 U5 (v := .row hp.next 0 n) (F' := Fr.mk f rnd e lm (hp.new (.rw 1 (List.replicate n (.int .i64 0)))) df up) rfl (fun cl rd => by
  simp only [efV, dX_P]
  exact mk24 h1 h2 hn) h
theorem rep_ints (n : Nat) : List.replicate n (AV.int .i64 0) = intsE (List.replicate n 0) := by unfold intsE; rw [List.map_replicate]
theorem ints_set (l : List Int) (j : Nat) (x : Int) : (intsE l).set j (.int .i64 x) = intsE (l.set j x) := by unfold intsE; rw [List.map_set]
theorem ints_get {l : List Int} {j : Nat} (h : j < l.length) : (intsE l)[j]? = some (.int .i64 (l.getD j 0)) := by
 obtain ⟨x, hx⟩ := get_some h
 unfold intsE
 rw [List.getElem?_map, hx]
 simp [List.getD, hx]
theorem row_idx {id n j : Nat} {hp : Heap} {el : List AV} (hg : hp.get id = some (.rw 1 el)) (hj : j < n) : indexAddrV Tryz.prog hp 24 (.row id 0 n) (.int .i64 (j : Int)) = some (.eptr id 1 j 0) := by
 have hi : idxV (.int .i64 (j : Int)) n = some j := by
  simp only [idxV]
  rw [if_pos (by constructor <;> omega)]
  simp
 simp only [indexAddrV, Tryz.underlying24, ty_lay3, hi, hg, if_true, Nat.zero_add]
attribute [local irreducible] houseB pathB airS failsH hasB allP orI bitI
section
variable {c : Itr}
end
end Go.AM
namespace Go.AM
open Go
variable [Keep]
theorem WO1.gund {X : Ctx} {ops : Array Oper} {K P : AV → Fr → Prop} {F : Fr} {d : Option Tmp} {op : Op} {T : TypeId} {p : String} {af : Array Edge} {j : Nat} {want : Bool} {o : Oper} {t : Tmp} (ho : ops[j]? = some o) (ht : o.dst = some t) (hb : F.e.get t = some undefA) (h : K undefA (F.put d undefA)) : WO1 X ops ⟨d, op, T, p, af, some (j, want)⟩ F K P :=
 ⟨.val undefA (F.put d undefA), ⟨0, fun m _ => by simp [stepOp, guardOk, wantedA, yieldedA, ho, ht, hb, undefA]⟩, h⟩
end Go.AM
