/-
  Texts of the proof: an evaluator of the program's code, its soundness, contracts of functions.
-/
import Derived.Test.YtlhcjccaimmhgaaGreatDoorPAI
set_option linter.unusedSimpArgs false
set_option linter.unusedVariables false
set_option linter.unusedSectionVars false
namespace Go.AM
open Go Go.Proofs
variable [Keep]
def retIs (r : COut) (v : AV) : Bool :=
  match r with
  | .ret u _ none => AV.same u v
  | _ => false
theorem retIs_ret {r : COut} {v : AV} (h : retIs r v = true) : ∃ h', r = .ret v h' none := by
  unfold retIs at h
  split at h
  · rename_i u h'
    have := AV.same_eq _ _ h
    subst this
    exact ⟨_, rfl⟩
  · cases h
def memo (tab : List (List AV × AV)) (args : List AV) : Option AV :=
  match tab with
  | [] => none
  | (a, v) :: r => bif AV.sameL a args then some v else memo r args
theorem memo_mem {tab : List (List AV × AV)} {args : List AV} {v : AV} (h : memo tab args = some v) : (args, v) ∈ tab := by
  induction tab with
  | nil => simp [memo] at h
  | cons e r ih =>
    obtain ⟨a, u⟩ := e
    simp only [memo] at h
    cases hs : AV.sameL a args with
    | true =>
      rw [hs] at h
      have := AV.sameL_eq _ _ hs
      subst this
      cases h
      exact .head _
    | false =>
      rw [hs] at h
      exact .tail _ (ih h)
theorem memo_intr {X : Ctx} (s : Sound X) {f : FuncId} {tab : List (List AV × AV)} (hp : (tab.all fun e => e.2.pur) = true) (hr : ∀ e ∈ tab, ∃ n, retIs (callF X (ev X n) f e.1 emptyHp) e.2 = true) : IntrFn X.P f (pureFn (memo tab)) := by
  refine pure_intr1 s ?_ ?_
  · intro args v e
    exact List.all_eq_true.1 hp _ (memo_mem e)
  · intro args v e
    obtain ⟨n, hn⟩ := hr _ (memo_mem e)
    obtain ⟨h', e'⟩ := retIs_ret hn
    exact ⟨h', n, e'⟩
end Go.AM
set_option linter.unusedSectionVars false
set_option linter.unusedVariables false
set_option linter.unusedSimpArgs false
set_option maxRecDepth 100000
namespace Go.AM
open Go Go.Proofs
variable [Keep]
attribute [local irreducible] W WO WO1 WD WQ WT thenQ blockQ endR isRet retK Cl ClR
theorem turnP_R {turn : Int} (h : inB turn 0 7 = true) (p : Pt) : turnP turn p = turnR p turn := by
  simp only [inB, Bool.and_eq_true, decide_eq_true_eq] at h
  unfold turnP turnR
  by_cases h4 : turn < 4
  · rw [if_pos h4, if_neg (by omega)]
    have : turn.tmod 4 = turn := Int.tmod_eq_of_lt (by omega) h4
    rw [this]
  · have hw : w64 (turn - 4) = turn - 4 := wrap_small (by omega) (by omega)
    have : turn.tmod 4 = turn - 4 := by
      rw [Int.tmod_eq_emod_of_nonneg (by omega)]
      omega
    rw [if_neg h4, if_pos (by omega), hw, this]
    rfl
def c25 (c : FuncId → Option (List AV → Heap → Option (AV × Heap))) : FuncId → Option (List AV → Heap → Option (AV × Heap))
  | 25 => some (pureFn sp25)
  | f => c f
theorem K25 {X : Ctx} (hX : X.intr 25 = some (pureFn sp25)) (h : Heap) : Cl X 25 [] h (.ret (.bool true) h none) := Cl.intr hX rfl
end Go.AM
