/-
  A part of the proof: contracts of functions.
-/
import Derived.Test.YtkpbdjpekjdhcaaGreatDoorRBQ
import Derived.Test.YtkpbdjpekjdhcaaGreatDoorRAU
set_option linter.unusedSectionVars false
set_option linter.unusedVariables false
set_option linter.unusedSimpArgs false
set_option maxRecDepth 100000
namespace Go.AM
open Go Go.Proofs
variable [Keep]
attribute [local irreducible] W WO WO1 WD WQ WT thenQ blockQ endR isRet retK Cl ClR
open Go.TX (Rm Fa Ha Hs)
theorem wAll_len (f : Int → Int → Int) (m : Hs) (seen off : Int) (l : List (List Int)) (n : Nat) : (wAll f m seen off l n).2.length = n := by
 unfold wAll
 rw [w_len, List.length_replicate]
attribute [local irreducible] houseB pathB airS failsH hasB allP wAll
section
variable {c : Itr}
set_option maxHeartbeats 4000000 in
theorem C32 (h32 : c 32 = none) (seen off : Int) (h : Heap) : Cl (dX c) 32 [.int .i64 seen, .int .i64 off] h (.ret (.bool (inB seen 0 2000 && inB off 0 100)) h none) := by
 refine ClR.cl ?_
 unfold inB
 cases e1 : decide (seen ≥ 0) <;> cases e2 : decide (seen ≤ 2000) <;> cases e3 : decide (off ≥ 0) <;> cases e4 : decide (off ≤ 100)
 all_goals
  simp only [Bool.and_self, Bool.and_false, Bool.false_and, Bool.and_true, Bool.true_and]
  refine ClR.walk (c := _) h32 Tryz.func32 rfl (by kernel_rfl) rfl (fun e => by cases e) ?_
  try simp only [entryEnv, Nat.reduceAdd, List.nil_append, List.cons_append, emptyHp]
  repeat' (first | refine goS ?_ | refine go2 (fun hh => ?_) (fun hh => ?_) | fail)
  all_goals (simp only [resV_def (X := dX c) Tryz.func32, Tryz.results32]; first | exact J5 | refine J6 ?_)
  all_goals rfl
end
noncomputable def c5 : Itr
 | 21 => some (pureFn sp21S)
 | 22 => some (pureFn sp22)
 | 24 => some (flatFnD sp82)
 | 31 => some (pureFn sp31)
 | 33 => some (pureFn sp33)
 | 34 => some (flatFnD sp34)
 | _ => none
end Go.AM
