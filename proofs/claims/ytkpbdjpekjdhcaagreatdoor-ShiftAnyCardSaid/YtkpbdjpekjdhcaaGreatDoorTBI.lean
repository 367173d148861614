/-
  A part of the proof: contracts of functions.
-/
import Derived.Test.YtkpbdjpekjdhcaaGreatDoorTBF
set_option linter.unusedSectionVars false
set_option linter.unusedVariables false
set_option linter.unusedSimpArgs false
set_option maxRecDepth 100000
namespace Go.AM
open Go Go.Proofs
variable [Keep]
attribute [local irreducible] W WO WO1 WD WQ WT thenQ blockQ endR isRet retK Cl ClR
open Go.TX (Rm Fa Ha Hs mapO mapO_len)
attribute [local irreducible] roundQ RdR
theorem foldS_all {α σ : Type} (f : σ → α → σ) : ∀ (l : List α) (s : σ), foldS (fun y s => (f s y, true)) l s = (l.foldl f s, true)
 | [], s => rfl
 | a :: l, s => by
  simp only [foldS, if_true, List.foldl_cons]
  exact foldS_all f l (f s a)
theorem pth_blt {h : Heap} {a : AV} {p : List Int} (b : Blt h a 1 (intsE p)) (hm : p.length ≤ maxL) : pthV h a = some p := by
 rcases b with ⟨rfl, e⟩ | ⟨id, rfl, h1, h2, h3⟩
 ·have : p = [] := by
   have := congrArg List.length e
   rw [intsE_len] at this
   exact List.length_eq_zero_iff.1 this
  subst this
  rfl
 ·have hs := ints_sl p hm
  have hvs : slN (intsE p) = .vslice (intsE p) := by
   cases hq : intsE p with
   | nil => exact absurd hq h3
   | cons a r => rfl
  rw [hvs] at hs
  simp only [pthV, h1, List.drop_zero, Nat.zero_add, Nat.le_refl, and_self, if_true]
  rw [List.take_of_length_le (Nat.le_refl _)]
  exact hs
def twoO (a b : Nat) (_ : Heap) (id : Nat) : Prop := id = a ∨ id = b
attribute [local irreducible] houseB pathB airS failsH hasB allP orI bitI
end Go.AM
