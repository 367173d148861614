/-
  A part of the proof: contracts of functions.
-/
import Derived.Test.YtkpbdjpekjdhcaaGreatDoorRAZ
set_option linter.unusedSectionVars false
set_option linter.unusedVariables false
set_option linter.unusedSimpArgs false
set_option maxRecDepth 100000
namespace Go.AM
open Go Go.Proofs
variable [Keep]
attribute [local irreducible] W WO WO1 WD WQ WT thenQ blockQ endR isRet retK Cl ClR
open Go.TX (Rm Fa Ha Hs mapO mapO_len)
attribute [local irreducible] houseB pathB airS mostF leastF dustAt
theorem mapO_dust {m : Hs} (ho : HOk m) {h : Heap} {mid : Nat} {l : List Fl} (hg : h.get mid = some (.mp (entE m l))) : ∀ {fs : List Fl}, (∀ f ∈ fs, f ∈ l) → mapO (dustAt h (.map mid)) (fs.map Fl.tell) = some (fs.map fun f => (lowG m f, highG m f))
 | [], _ => rfl
 | f :: fs, hf => by
  have h1 := day_dust ho hg (hf f (by simp))
  have h2 := mapO_dust ho hg (fs := fs) fun x hx => hf x (by simp [hx])
  simp only [List.map_cons, mapO, h1, h2]
  rfl
theorem K104d {X : Ctx} (hX : X.intr 104 = some go104) {m : Hs} (ho : HOk m) {z1 z2 z3 z4 a pa : AV} {mid : Nat} {l : List Fl} {h : Heap} {p : List Int} (ha : slV fkC a = some ((failsH m).map Fl.tell)) (hg : h.get mid = some (.mp (entE m l))) (hl : ∀ f ∈ failsH m, f ∈ l) (hp : pthV h pa = some p) (hb : pathB m p = true) :
  Cl X 104 [.agg [.int .i64 m.hours, z1, z2, z3, z4, a, .map mid], pa] h (.ret (.agg [.int .i64 (airS m p).1, .int .i64 (airS m p).2]) h none) := by
 have h1 := mapO_dust ho hg hl
 have h2 := air_most ho hb
 have h3 := air_least ho hb
 unfold gsH at h2 h3
 exact Cl.intr hX (by simp only [go104, go148, go140, ha, hp, h1, h2, h3])
theorem pth_of {h : Heap} {a : AV} {p : List Int} (hp : slV intC a = some p) : pthV h a = some p := by
 rcases (slV_is hp).1 with ⟨rfl | rfl, _⟩ | rfl <;> exact hp
end Go.AM
