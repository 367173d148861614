/-
  A part of the proof: contracts of functions.
-/
import Derived.Test.YtkpbdjpekjdhcaaGreatDoorUBF
import Derived.Test.YtkpbdjpekjdhcaaGreatDoorUBE
set_option linter.unusedSectionVars false
set_option linter.unusedVariables false
set_option linter.unusedSimpArgs false
set_option maxRecDepth 100000
namespace Go.AM
open Go Go.Proofs
variable [Keep]
attribute [local irreducible] W WO WO1 WD WQ WT thenQ blockQ endR isRet retK Cl ClR
open Go.TX (Rm Fa Ha Hs)
attribute [local irreducible] houseB airS lowsA highsA failsH
def rstP (n k r : Nat) : List Int := (List.replicate n (-1)).set k (r : Int)
def rowK (m : Hs) (nn r : Nat) : Nat → List (Int × Int)
 | 0 => []
 | k + 1 => rowK m nn r k ++ [airS m (rstP nn k r)]
def knG (m : Hs) (nn : Nat) : Nat → List (List (Int × Int))
 | 0 => []
 | r + 1 => knG m nn r ++ [rowK m nn r nn]
theorem rowK_len (m : Hs) (nn r : Nat) : ∀ k, (rowK m nn r k).length = k := by
 intro k
 induction k with
 | zero => rfl
 | succ k ih => simp [rowK, ih]
theorem knG_len (m : Hs) (nn : Nat) : ∀ k, (knG m nn k).length = k := by
 intro k
 induction k with
 | zero => rfl
 | succ k ih => simp [knG, ih]
theorem spanE_app (l : List (Int × Int)) (p : Int × Int) : spanE (l ++ [p]) = spanE l ++ [.agg [.int .i64 p.1, .int .i64 p.2]] := by simp [spanE, spC]
theorem spans_map (g : List (List (Int × Int))) : slN ((g.map spanE).map slN) = slN (spansE g) := by unfold spansE; rw [List.map_map]; rfl
end Go.AM
namespace Go.AM
open Go Go.Proofs
variable [Keep]
attribute [local irreducible] W WO WO1 WD WQ WT thenQ blockQ endR isRet retK Cl ClR
open Go.TX (Rm Fa Ha Hs)
theorem rst_get {n k r j : Nat} (hj : j < n) : (rstP n k r)[j]? = some (if j = k then (r : Int) else -1) := by
 unfold rstP
 rw [List.getElem?_set]
 by_cases e : k = j
 ·subst e
  rw [if_pos rfl, if_pos rfl]
  simp [hj]
 ·rw [if_neg e, if_neg (fun h => e h.symm), List.getElem?_replicate, if_pos hj]
theorem rst_len (n k r : Nat) : (rstP n k r).length = n := by unfold rstP; rw [List.length_set, List.length_replicate]
theorem br_rest {g : List (List Int)} {R n : Nat} (hg : GOk g R n 250) {r k : Nat} (hr : r < R) (hk : k < n) : ∀ j : Nat, j ≤ n → brG g (rstP n k r) j = some (if j ≤ k then 0 else (g.getD r []).getD k 0) := by
 obtain ⟨row, hrow⟩ := get_some (l := g) (k := r) (by rw [hg.len]; exact hr)
 have hrl := hg.row row (List.mem_of_getElem? hrow)
 obtain ⟨x, hx⟩ := get_some (l := row) (k := k) (by omega)
 have hv := hg.val row (List.mem_of_getElem? hrow) x (List.mem_of_getElem? hx)
 have hgx : (g.getD r []).getD k 0 = x := by simp [List.getD, hrow, hx]
 rw [hgx]
 intro j
 induction j with
 | zero => intro _; unfold brG; simp
 | succ j ih =>
  intro hj
  have ih := ih (by omega)
  have hp := rst_get (n := n) (k := k) (r := r) (j := j) (by omega)
  unfold brG
  simp only [ih, hp]
  by_cases e : j = k
  ·subst e
   have e1 : ((r : Int) == -1) = false := by simp only [beq_eq_false_iff_ne, ne_eq]; omega
   have hga : gridA g (r : Int) j = some x := by
    unfold gridA
    rw [if_pos (by omega)]
    simp [hrow, hx]
   simp only [if_true, e1, Bool.false_eq_true, if_false, hga, Nat.le_refl]
   rw [if_neg (by omega), w64_small (by omega) (by omega), Int.zero_add]
  ·simp only [if_neg e, beq_self_eq_true, if_true]
   by_cases e2 : j ≤ k
   ·rw [if_pos e2, if_pos (by omega)]
   ·rw [if_neg e2, if_neg (by omega)]
theorem brV_rest {g : List (List Int)} {R n : Nat} (hg : GOk g R n 250) {r k : Nat} (hr : r < R) (hk : k < n) : brV g (rstP n k r) = (g.getD r []).getD k 0 := by
 unfold brV
 rw [rst_len, br_rest hg hr hk n (Nat.le_refl _), if_neg (by omega)]
 rfl
theorem kn_fold {m : Hs} (ho : HOk m) {r k : Nat} (hr : r < m.rooms.length) (hk : k < m.hours.toNat) {f0 : Fl} (h0 : (failsH m)[0]? = some f0) :
  airS m (rstP m.hours.toNat k r) = (((failsH m).map fun f => ((lowG m f).getD r []).getD k 0).foldl minV (((lowG m f0).getD r []).getD k 0), ((failsH m).map fun f => ((highG m f).getD r []).getD k 0).foldl maxV (((highG m f0).getD r []).getD k 0)) := by
 have e1 : lowsV m (rstP m.hours.toNat k r) = (failsH m).map fun f => ((lowG m f).getD r []).getD k 0 := by
  unfold lowsV
  exact List.map_congr_left fun f _ => brV_rest (low_ok ho f) hr hk
 have e2 : highsV m (rstP m.hours.toNat k r) = (failsH m).map fun f => ((highG m f).getD r []).getD k 0 := by
  unfold highsV
  exact List.map_congr_left fun f _ => brV_rest (high_ok ho f) hr hk
 unfold airS
 rw [e1, e2]
 generalize failsH m = L at *
 cases L with
 | nil => cases h0
 | cons f l =>
  simp only [List.getElem?_cons_zero, Option.some.injEq] at h0
  subst h0
  have a1 : ∀ x : Int, minV x x = x := fun x => by simp [minV]
  have a2 : ∀ x : Int, maxV x x = x := fun x => by simp [maxV]
  simp only [List.map_cons, minL, maxL', List.foldl_cons, a1, a2]
end Go.AM
