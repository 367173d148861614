/-
  A part of the proof: contracts of functions.
-/
import Derived.Test.YtkpbdjpekjdhcaaGreatDoorXAY
set_option linter.unusedSectionVars false
set_option linter.unusedVariables false
set_option linter.unusedSimpArgs false
set_option maxRecDepth 100000
namespace Go.AM
open Go Go.Proofs
variable [Keep]
attribute [local irreducible] W WO WO1 WD WQ WT thenQ blockQ endR isRet retK Cl ClR
open Go.TX (Rm Fa Ha Hs mapO mapO_len)
attribute [local irreducible] houseB pathB airS mostF leastF dustAt
theorem mapO_dust {m : Hs} (ho : HOk m) {h : Heap} {mid : Nat} {l : List Fl} (hg : h.get mid = some (.mp (entE m l))) : ∀ {fs : List Fl}, (∀ f ∈ fs, f ∈ l) -> mapO (dustAt h (.map mid)) (fs.map Fl.tell) = some (fs.map fun f => (lowG m f, highG m f))
 | [], _ => rfl
 | f :: fs, hf => by
  have h1 := day_dust ho hg (hf f (by simp))
  have h2 := mapO_dust ho hg (fs := fs) fun x hx => hf x (by simp [hx])
  simp only [List.map_cons, mapO, h1, h2]
  rfl
theorem pth_of {h : Heap} {a : AV} {p : List Int} (hp : slV intC a = some p) : pthV h a = some p := by
 rcases (slV_is hp).1 with ⟨rfl | rfl, _⟩ | rfl <;> exact hp
end Go.AM
