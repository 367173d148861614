/-
  A part of the proof: contracts of functions.
-/
import Derived.Test.YtkpbdjpekjdhcaaGreatDoorUBD
set_option linter.unusedSectionVars false
set_option linter.unusedVariables false
set_option linter.unusedSimpArgs false
set_option maxRecDepth 100000
namespace Go.AM
open Go Go.Proofs
variable [Keep]
attribute [local irreducible] W WO WO1 WD WQ WT thenQ blockQ endR isRet retK Cl ClR
open Go.TX (Rm Fa Ha Hs)
def spC : Cd (Int × Int) where
 enc r := .agg [.int .i64 r.1, .int .i64 r.2]
 dec a := match a with | .agg [.int .i64 x, .int .i64 y] => some (x, y) | _ => none
 de _ := rfl
 ed a x h := by split at h <;> cases h; rfl
 pur _ := rfl
def spanE (l : List (Int × Int)) : List AV := l.map spC.enc
def spansE (g : List (List (Int × Int))) : List AV := g.map fun l => slN (spanE l)
theorem spans_idx {g : List (List (Int × Int))} {k : Nat} {l : List (Int × Int)} (h : g[k]? = some l) (H : Heap) : indexAddrV Tryz.prog H 30 (slN (spansE g)) (.int .i64 ↑k) = some (.vptr [slN (spanE l)]) := by
 have hc := (slN_is (spanE l)).cells
 have := (slN_is (spansE g)).idx (P := Tryz.prog) (hp := H) (x := slN (spanE l)) (m := 1) Tryz.underlying30 ty_lay104 (by unfold spansE; rw [List.getElem?_map, h]; rfl) (by rw [hc]; rfl)
 rw [hc] at this
 exact this
theorem span_idx {l : List (Int × Int)} {k : Nat} {p : Int × Int} (h : l[k]? = some p) (H : Heap) : indexAddrV Tryz.prog H 104 (slN (spanE l)) (.int .i64 ↑k) = some (.vptr [.int .i64 p.1, .int .i64 p.2]) :=
 (slN_is (spanE l)).idx (P := Tryz.prog) (hp := H) (x := spC.enc p) (m := 2) Tryz.underlying104 ty_lay56 (by unfold spanE; rw [List.getElem?_map, h]; rfl) rfl
section
variable {c : Itr}
end
end Go.AM
