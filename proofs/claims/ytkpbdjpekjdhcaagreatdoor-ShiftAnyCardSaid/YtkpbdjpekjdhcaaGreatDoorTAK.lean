/-
  A part of the proof: contracts of functions.
-/
import Derived.Test.YtkpbdjpekjdhcaaGreatDoorTAJ
set_option linter.unusedSectionVars false
set_option linter.unusedVariables false
set_option linter.unusedSimpArgs false
set_option maxRecDepth 100000
namespace Go.AM
open Go Go.Proofs
variable [Keep]
attribute [local irreducible] W WO WO1 WD WQ WT thenQ blockQ endR isRet retK Cl ClR
open Go.TX (Rm Fa Ha Hs)
attribute [local irreducible] roundQ RdR hasB
structure HsA (m : Hs) (ra fa oa ha : AV) : Prop where
 r : slV rmC ra = some m.rooms
 f : slV faC fa = some m.fans
 o : slV intC oa = some m.op
 h : slV haC ha = some m.hands
theorem hs_parts' {x : AV} {m : Hs} (h : hsV x = some m) : ∃ ra fa oa ha, x = .agg [.int .i64 m.hours, ra, fa, oa, ha] ∧ HsA m ra fa oa ha := by
 obtain ⟨a, b, c, d, e, v1, v2, v3, v4⟩ := hsV_is h
 exact ⟨a, b, c, d, e, v1, v2, v3, v4⟩
theorem HsA.hs {m : Hs} {ra fa oa ha : AV} (q : HsA m ra fa oa ha) : hsV (.agg [.int .i64 m.hours, ra, fa, oa, ha]) = some m := by
 simp only [hsV, q.r, q.f, q.o, q.h]
theorem HsA.pur {m : Hs} {ra fa oa ha : AV} (q : HsA m ra fa oa ha) : AV.pur (.agg [.int .i64 m.hours, ra, fa, oa, ha]) = true := by
 simp [AV.pur, AV.purL, sl_pur q.r, sl_pur q.f, sl_pur q.o, sl_pur q.h]
structure CxR (c : Itr) : Prop where
 h84 : c 84 = some (pureFn sp84)
 h85 : c 85 = some (pureFn sp85)
 h75 : c 75 = none
 h109 : c 109 = none
 h39 : c 39 = none
 h38 : c 38 = none
 h69 : c 69 = none
 h128 : c 128 = none
section
variable {c : Itr}
end
end Go.AM
namespace Go.AM
open Go Go.Proofs
variable [Keep]
attribute [local irreducible] W WO WO1 WD WQ WT thenQ blockQ endR isRet retK Cl ClR
open Go.TX (Rm Fa Ha Hs)
attribute [local irreducible] runsB madeR madeF
theorem ho_parts {m : Hs} (ho : HOk m) : ∃ nn : Nat, m.hours = nn ∧ m.hours.toNat = nn ∧ 1 ≤ nn ∧ nn ≤ 4 ∧ m.op.length = nn := by
 have h1 := ho.hours
 have h2 := ho.op
 exact ⟨m.hours.toNat, by omega, rfl, by omega, by omega, by omega⟩
theorem ho_walk {m : Hs} (ho : HOk m) : walkB m = true := by
 obtain ⟨nn, h1, h2, h3, h4, h5⟩ := ho_parts ho
 have h6 := ho.rooms
 have h7 := ho.fans
 unfold walkB
 simp only [Bool.and_eq_true, decide_eq_true_eq]
 omega
section
variable {c : Itr}
end
end Go.AM
