/-
  A part of the proof: contracts of functions.
-/
import Derived.Test.YtkpbdjpekjdhcaaGreatDoorXAU
import Derived.Test.YtkpbdjpekjdhcaaGreatDoorXAY
set_option linter.unusedSimpArgs false
set_option linter.unusedVariables false
set_option linter.unusedSectionVars false
set_option maxRecDepth 100000
namespace Go.AM
open Go Go.Proofs
open Go.TX (Rm Fa Ha Hs)
variable [Keep]
theorem ag36 : isAggT Tryz.prog 36 = false := by simp [isAggT, Tryz.underlying36]
theorem Sh.what {n : Nat} {xs : List AV} (h : Sh Tryz.prog (n + 1) 50 xs) : ∃ i, xs = [.int .i64 i] := by
 obtain ⟨i, h, _⟩ := Sh.int Tryz.underlying50 h
 exact ⟨i, h⟩
theorem lsI_of : ∀ (es : List AV), (∀ x ∈ es, ∃ l : List Int, isSl x (intsE l)) -> ∃ g : List (List Int), es.length = g.length /\ ∀ (k : Nat) (l : List Int), g[k]? = some l -> ∃ b, es[k]? = some b /\ isSl b (intsE l)
 | [], _ => ⟨[], rfl, fun k l h => by simp at h⟩
 | x :: es, h => by
  obtain ⟨l0, h0⟩ := h x (by simp)
  obtain ⟨g, g1, g2⟩ := lsI_of es fun y hy => h y (by simp [hy])
  refine ⟨l0 :: g, by simp [g1], fun k l hk => ?_⟩
  cases k with
  | zero => simp at hk; subst hk; exact ⟨x, rfl, h0⟩
  | succ k => simp at hk; simpa using g2 k l hk
theorem Sh.lists {n : Nat} {xs : List AV} (h : Sh Tryz.prog (n + 3) 36 xs) : ∃ (a : AV) (g : List (List Int)), xs = [a] /\ LsI a g := by
 unfold Sh at h
 rw [Tryz.underlying36] at h
 obtain ⟨a, es, rfl, h1, _, h3⟩ := h
 obtain ⟨g, g1, g2⟩ := lsI_of es fun x hx => by
  obtain ⟨xs, rfl, k⟩ := h3 x hx
  obtain ⟨b, l, rfl, q⟩ := Sh.ints k
  rw [ag24]
  exact ⟨l, q⟩
 exact ⟨a, g, rfl, es, h1, g1, g2⟩
theorem Sh.houseI {n : Nat} {xs : List AV} (h : Sh Tryz.prog (n + 5) 27 xs) : ∃ (ra fa oa ha : AV) (m : Hs), xs = [.int .i64 m.hours, ra, fa, oa, ha] /\ HsI m ra fa oa ha := by
 obtain ⟨ra, fa, oa, ha, m, e, v1, v2, v3, v4⟩ := Sh.house h
 exact ⟨ra, fa, oa, ha, m, e, v1, v2, v3, v4⟩
end Go.AM
