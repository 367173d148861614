/-
  A part of the proof: contracts of functions.
-/
import Derived.Test.YtkpbdjpekjdhcaaGreatDoorXBF
import Derived.Test.YtkpbdjpekjdhcaaGreatDoorXBC
set_option linter.unusedSectionVars false
set_option linter.unusedVariables false
set_option linter.unusedSimpArgs false
set_option maxRecDepth 100000
namespace Go.AM
open Go Go.Proofs
variable [Keep]
attribute [local irreducible] W WO WO1 WD WQ WT thenQ blockQ endR isRet retK Cl ClR
open Go.TX (Rm Fa Ha Hs mapO mapO_len)
attribute [local irreducible] hasB metF houseB failsH highG lowG brV brG
theorem count_fold (x : Int) : ∀ (l : List Int) (n : Nat), n + l.length <= 1000 -> l.foldl (fun (n : Int) y => if (y == x) = true then w64 (n + 1) else n) (n : Int) = ((n + l.count x : Nat) : Int)
 | [], n, _ => by simp
 | a :: l, n, h => by
  simp only [List.length_cons] at h
  rw [List.foldl_cons, List.count_cons]
  cases e : (a == x) with
  | true =>
   simp only [if_true]
   have e1 : w64 ((n : Int) + 1) = ((n + 1 : Nat) : Int) := by rw [w64_small (by omega) (by omega)]; omega
   rw [e1, count_fold x l (n + 1) (by omega)]
   congr 1
   omega
  | false =>
   simp only [Bool.false_eq_true, if_false]
   rw [count_fold x l n (by omega)]
   congr 1
theorem worked_busy {p : List Int} (hl : p.length <= 1000) (h : ∀ x ∈ p, -1 <= x) : workedL p = busyL p := by
 have h1 : countL p (-1) = (p.count (-1) : Int) := by
  unfold countL
  have := count_fold (-1) p 0 (by omega)
  simpa using this
 have h2 : ∀ l : List Int, (∀ x ∈ l, -1 <= x) -> l.count (-1) + l.countP (fun r => decide (r >= 0)) = l.length := by
  intro l
  induction l with
  | nil => intro _; rfl
  | cons a l ih =>
   intro h
   have ha := h a (by simp)
   have ih := ih fun x hx => h x (by simp [hx])
   rw [List.count_cons, List.countP_cons, List.length_cons]
   by_cases e : a = -1
   ·subst e
    have e1 : ((-1 : Int) == -1) = true := by decide
    have e2 : decide ((-1 : Int) >= 0) = false := by decide
    rw [e1, e2, if_pos rfl, if_neg (by decide)]
    omega
   ·have e1 : (a == -1) = false := by simp [e]
    have e2 : decide (a >= 0) = true := by simp only [decide_eq_true_eq]; omega
    rw [e1, e2, if_neg (by decide), if_pos rfl]
    omega
 have h3 := h2 p h
 have h4 : p.count (-1) <= p.length := List.count_le_length
 unfold workedL busyL
 rw [h1, w64_small (by omega) (by omega)]
 omega
def stafB (m : Hs) (g : List (List Int)) : Bool := (List.range g.length).all fun i => decide (workedL (g.getD i []) <= mostAt m i) && decide ((airS m (g.getD i [])).2 <= limAt m i)
attribute [local irreducible] pathB airS
theorem K90d {X : Ctx} (hX : X.intr 90 = some go90) {m : Hs} (ho : HOk m) {z1 z2 z3 z4 a pa : AV} {mid : Nat} {l : List Fl} {h : Heap} {p : List Int} (li mo : Int) (ha : slV fkC a = some ((failsH m).map Fl.tell)) (hg : h.get mid = some (.mp (entE m l))) (hl : ∀ f ∈ failsH m, f ∈ l) (hp : pthV h pa = some p) (hb : pathB m p = true) :
  Cl X 90 [.agg [.int .i64 m.hours, z1, z2, z3, z4, a, .map mid], .agg [.int .i64 li, .int .i64 mo], pa] h (.ret (.bool (decide (workedL p <= mo) && decide ((airS m p).2 <= li))) h none) := by
 have h1 := mapO_dust ho hg hl
 have h2 := air_most ho hb
 unfold gsH at h2
 exact Cl.intr hX (by simp only [go90, go140, ha, hp, h1, h2])
end Go.AM
