/-
  The reference's orders and search.
-/
import Derived.Test.YtlhcjccaimmhgaaGreatDoorFnM
import Derived.Test.YtlhcjccaimmhgaaGreatDoorFnO
import Derived.Test.YtlhcjccaimmhgaaGreatDoorShared
set_option linter.unusedSectionVars false
set_option linter.unusedVariables false
set_option linter.unusedSimpArgs false
set_option maxRecDepth 100000
namespace Go.AM
open Go Go.Proofs
variable [Keep]
attribute [local irreducible] W WO WO1 WD WQ WT thenQ blockQ endR isRet retK Cl ClR
attribute [local irreducible] roundQ RdR clR
theorem Blt.ext {h h' : Heap} {v : AV} {sz : Nat} {l : List AV} (b : Blt h v sz l) (k : HExt h h') : Blt h' v sz l := by
  rcases b with q | ⟨id, h1, h2, h3, h4⟩
  · exact .inl q
  · exact .inr ⟨id, h1, (k.2 id h3).trans h2, Nat.lt_of_lt_of_le h3 k.1, h4⟩
section
variable {X : Ctx} {ops : Array Oper} {K P : AV → Fr → Prop} {F : Fr} {d : Option Tmp} {T : TypeId} {p : String} {af : Array Edge}
end
def kidsTo (p : List Nat) (m : Nat) : List (List Nat) := ((List.range m).filter fun v => !p.contains v).map fun v => p ++ [v]
def lev (n : Nat) : Nat → List (List Nat)
  | 0 => [[]]
  | i + 1 => (lev n i).flatMap fun p => kidsTo p n
def Elems (h : Heap) (es : List AV) (ps : List (List Nat)) : Prop := es.length = ps.length ∧ ∀ (i : Nat) (r : AV) (p : List Nat), es[i]? = some r → ps[i]? = some p → Blt h r 1 (natsV p)
theorem Elems.ext {h h' : Heap} {es : List AV} {ps : List (List Nat)} (q : Elems h es ps) (k : HExt h h') : Elems h' es ps := ⟨q.1, fun i r p h1 h2 => (q.2 i r p h1 h2).ext k⟩
theorem Elems.add {h : Heap} {es : List AV} {ps : List (List Nat)} {r : AV} {p : List Nat} (q : Elems h es ps) (b : Blt h r 1 (natsV p)) : Elems h (es ++ [r]) (ps ++ [p]) := by
  refine ⟨by simp [q.1], fun i r' p' h1 h2 => ?_⟩
  have hl := q.1
  rcases Nat.lt_trichotomy i es.length with c | c | c
  · rw [List.getElem?_append_left c] at h1
    rw [List.getElem?_append_left (by omega)] at h2
    exact q.2 i r' p' h1 h2
  · subst c
    rw [List.getElem?_append_right (Nat.le_refl _)] at h1
    rw [hl, List.getElem?_append_right (Nat.le_refl _)] at h2
    simp at h1 h2
    subst h1 h2
    exact b
  · rw [List.getElem?_eq_none (by simp; omega)] at h1
    cases h1
def ordsR (h : Heap) (n : Nat) (r : COut) : Prop := ∃ es h', r = .ret (.vslice es) h' none ∧ HExt h h' ∧ Elems h' es (lev n n)
end Go.AM
set_option maxRecDepth 100000
namespace Go.AM
open Go Go.Proofs
variable [Keep]
attribute [local irreducible] W WO WO1 WD WQ WT thenQ blockQ endR isRet retK Cl ClR
attribute [local irreducible] roundQ RdR clR ordsR lev kidsTo
end Go.AM
set_option maxRecDepth 100000
namespace Go.AM
open Go Go.Proofs
variable [Keep]
attribute [local irreducible] W WO WO1 WD WQ WT thenQ blockQ endR isRet retK Cl ClR
def ext (n : Nat) : Nat → List Nat → List (List Nat)
  | 0, p => [p]
  | d + 1, p => (kidsTo p n).flatMap (ext n d)
end Go.AM
set_option maxRecDepth 100000
namespace Go.AM
open Go Go.Proofs
variable [Keep]
attribute [local irreducible] W WO WO1 WD WQ WT thenQ blockQ endR isRet retK Cl ClR
attribute [local irreducible] ordsR lev accB
end Go.AM
