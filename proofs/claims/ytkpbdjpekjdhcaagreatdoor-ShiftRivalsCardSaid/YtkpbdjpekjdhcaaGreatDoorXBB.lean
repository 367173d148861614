/-
  A part of the proof: contracts of functions.
-/
import Derived.Test.YtkpbdjpekjdhcaaGreatDoorXBA
set_option linter.unusedSectionVars false
set_option linter.unusedVariables false
set_option linter.unusedSimpArgs false
set_option maxRecDepth 100000
namespace Go.AM
open Go Go.Proofs
variable [Keep]
attribute [local irreducible] W WO WO1 WD WQ WT thenQ blockQ endR isRet retK Cl ClR
open Go.TX (Rm Fa Ha Hs mapO mapO_len)
attribute [local irreducible] houseB pathB airS mostF leastF dustAt
theorem mapO_dust {m : Hs} (ho : HOk m) {h : Heap} {mid : Nat} {l : List Fl} (hg : h.get mid = some (.mp (entE m l))) : ∀ {fs : List Fl}, (∀ f ∈ fs, f ∈ l) -> mapO (dustAt h (.map mid)) (fs.map Fl.tell) = some (fs.map fun f => (lowG m f, highG m f))
 | [], _ => rfl
 | f :: fs, hf => by
  have h1 := day_dust ho hg (hf f (by simp))
  have h2 := mapO_dust ho hg (fs := fs) fun x hx => hf x (by simp [hx])
  simp only [List.map_cons, mapO, h1, h2]
  rfl
theorem pth_of {h : Heap} {a : AV} {p : List Int} (hp : slV intC a = some p) : pthV h a = some p := by
 rcases (slV_is hp).1 with ⟨rfl | rfl, _⟩ | rfl <;> exact hp
def breV (m : Hs) (p : List Int) : AV := if (houseB m && pathB m p) = true then .tuple [.agg [.int .i64 (airS m p).1, .int .i64 (airS m p).2], .int .i64 0] else .tuple [.agg [.int .i64 0, .int .i64 0], .int .i64 2]
def safeW (s : Int × Int) (limit : Int) : Int := if decide (s.2 <= limit) = true then 3 else if decide (s.1 > limit) = true then 1 else 2
def safeV (m : Hs) (p : List Int) (limit : Int) : AV := if (houseB m && pathB m p && inB limit 0 2000) = true then .tuple [.int .i64 (safeW (airS m p) limit), .int .i64 0] else .tuple [.int .i64 0, .int .i64 2]
def sp60 : List AV -> Option AV
 | [x, pa] => match hsV x, slV intC pa with
  | some m, some p => some (breV m p)
  | _, _ => none
 | _ => none
def sp61 : List AV -> Option AV
 | [x, .int .i64 limit, pa] => match hsV x, slV intC pa with
  | some m, some p => some (safeV m p limit)
  | _, _ => none
 | _ => none
end Go.AM
