/-
  Contracts of functions of this program.
-/
import Derived.Test.YtlhcjccaimmhgaaGreatDoorSteps
import Derived.Lib.Hide
set_option linter.unusedSectionVars false
set_option linter.unusedVariables false
set_option linter.unusedSimpArgs false
set_option maxRecDepth 100000
namespace Go.AM
open Go Go.Proofs
variable [Keep]
attribute [local irreducible] W WO WO1 WD WQ WT thenQ blockQ endR isRet retK Cl ClR
def w64 (n : Int) : Int := IntKind.i64.wrap n
def inB (x lo hi : Int) : Bool := decide (x ≥ lo) && decide (x ≤ hi)
def spanB (l h lo hi wide : Int) : Bool := decide (l ≥ lo) && decide (l ≤ h) && decide (h ≤ hi) && decide (w64 (h - l) ≤ wide)
noncomputable def i0 : FuncId → Option (List AV → Heap → Option (AV × Heap)) := fun _ => none
theorem i0_sound : Sound (dX i0) := dX_sound (fun f g h => by cases h)
def sp93 : List AV → Option AV
  | [.int .i64 x, .int .i64 lo, .int .i64 hi] => some (.bool (inB x lo hi))
  | _ => none
theorem p93 : ∀ args v, sp93 args = some v → v.pur = true := by
  intro args v h
  unfold sp93 at h
  split at h
  · cases h; rfl
  · cases h
set_option maxHeartbeats 200000 in
theorem F93 : IntrFn Tryz.prog 93 (pureFn sp93) := by
  refine pure_fn (X := (dX i0)) i0_sound p93 ?_
  intro args v h
  unfold sp93 at h
  split at h
  · cases h
    rename_i x lo hi
    refine ClR.walk (c := _) rfl Tryz.func93 rfl (by kernel_rfl) rfl isRet_fail ?_
    simp only [entryEnv, Nat.reduceAdd]
    repeat' (first | refine Y1 ?_ | refine U7 ?_ | refine U8 ?_ | refine U9 ?_ | refine Y2 ?_ | ((first | refine Y3 ?_ | refine Y8 ?_); simp only [tN, bN, eN, true_and]) | (apply U4; exact Z1; exact rfl; simp only [pM, pN, rR, rP]) | (refine J3 rfl rfl ?_ ?_; exact Z2) | (refine J4 rfl rfl ?_ ?_; exact Z2; simp only [pM, pN, rR, rP]) | (apply U3; exact rfl; exact rfl; exact Z1; refine ⟨fun hh => ?_, fun hh => ?_⟩ <;> try simp only [Bool.not_true, Bool.not_false, pM, pN] at hh ⊢) | (apply U5; exact rfl; exact Z3; simp only [pM, pN, rR, rP]) | (simp only [tP, bP, eP, true_and]) | (refine Y7 ?_; simp only [tR, bR, eR, true_and]) | (refine Y9 ?_; simp only [tX, bS, bO, Nat.reduceBEq, tN, bN]) | (refine Y4 ?_ ?_; exact Z2) | (refine Y5 ?_ ?_; exact Z2) | (apply Y6; exact Z1; refine ⟨fun hh => ?_, fun hh => ?_⟩))
    all_goals simp only [resV_def (X := dX i0) Tryz.func93, Tryz.results93, resultsV, resultV, go_sem, *, Nat.reduceLT, Int.reduceEq, Int.reduceBEq, Int.reduceLE, Int.reduceLT, Nat.reduceAdd, Nat.reduceBEq, Nat.reduceEqDiff, reduceIte, Nat.reduceLeDiff, Nat.reduceMul, Nat.reduceSub, reduceCtorEq, frzRes, dFrz, frzCells, isRet_ret, tupleOf]
    all_goals simp [inB, *]
  · cases h
theorem K93 {X : Ctx} (hX : X.intr 93 = some (pureFn sp93)) (x lo hi : Int) (h : Heap) : Cl X 93 [.int .i64 x, .int .i64 lo, .int .i64 hi] h (.ret (.bool (inB x lo hi)) h none) := Cl.intr hX rfl
def sp97 : List AV → Option AV
  | [.int .i64 x, .int .i64 lo, .int .i64 hi] => some (.bool (inB x lo hi))
  | _ => none
theorem p97 : ∀ args v, sp97 args = some v → v.pur = true := by
  intro args v h
  unfold sp97 at h
  split at h
  · cases h; rfl
  · cases h
set_option maxHeartbeats 200000 in
theorem F97 : IntrFn Tryz.prog 97 (pureFn sp97) := by
  refine pure_fn (X := (dX i0)) i0_sound p97 ?_
  intro args v h
  unfold sp97 at h
  split at h
  · cases h
    rename_i x lo hi
    refine ClR.walk (c := _) rfl Tryz.func97 rfl (by kernel_rfl) rfl isRet_fail ?_
    simp only [entryEnv, Nat.reduceAdd]
    repeat' (first | refine Y1 ?_ | refine U7 ?_ | refine U8 ?_ | refine U9 ?_ | refine Y2 ?_ | ((first | refine Y3 ?_ | refine Y8 ?_); simp only [tN, bN, eN, true_and]) | (apply U4; exact Z1; exact rfl; simp only [pM, pN, rR, rP]) | (refine J3 rfl rfl ?_ ?_; exact Z2) | (refine J4 rfl rfl ?_ ?_; exact Z2; simp only [pM, pN, rR, rP]) | (apply U3; exact rfl; exact rfl; exact Z1; refine ⟨fun hh => ?_, fun hh => ?_⟩ <;> try simp only [Bool.not_true, Bool.not_false, pM, pN] at hh ⊢) | (apply U5; exact rfl; exact Z3; simp only [pM, pN, rR, rP]) | (simp only [tP, bP, eP, true_and]) | (refine Y7 ?_; simp only [tR, bR, eR, true_and]) | (refine Y9 ?_; simp only [tX, bS, bO, Nat.reduceBEq, tN, bN]) | (refine Y4 ?_ ?_; exact Z2) | (refine Y5 ?_ ?_; exact Z2) | (apply Y6; exact Z1; refine ⟨fun hh => ?_, fun hh => ?_⟩))
    all_goals simp only [resV_def (X := dX i0) Tryz.func97, Tryz.results97, resultsV, resultV, go_sem, *, Nat.reduceLT, Int.reduceEq, Int.reduceBEq, Int.reduceLE, Int.reduceLT, Nat.reduceAdd, Nat.reduceBEq, Nat.reduceEqDiff, reduceIte, Nat.reduceLeDiff, Nat.reduceMul, Nat.reduceSub, reduceCtorEq, frzRes, dFrz, frzCells, isRet_ret, tupleOf]
    all_goals simp [inB, *]
  · cases h
theorem K97 {X : Ctx} (hX : X.intr 97 = some (pureFn sp97)) (x lo hi : Int) (h : Heap) : Cl X 97 [.int .i64 x, .int .i64 lo, .int .i64 hi] h (.ret (.bool (inB x lo hi)) h none) := Cl.intr hX rfl
def sp190 : List AV → Option AV
  | [.int .i64 x, .int .i64 off] => some (.agg [.int .i64 (w64 (x - off)), .int .i64 (w64 (x + off))])
  | _ => none
theorem p190 : ∀ args v, sp190 args = some v → v.pur = true := by
  intro args v h
  unfold sp190 at h
  split at h
  · cases h; rfl
  · cases h
set_option maxHeartbeats 200000 in
theorem F190 : IntrFn Tryz.prog 190 (pureFn sp190) := by
  refine pure_fn (X := (dX i0)) i0_sound p190 ?_
  intro args v h
  unfold sp190 at h
  split at h
  · cases h
    refine ClR.walk (c := _) rfl Tryz.func190 rfl (by kernel_rfl) rfl isRet_fail ?_
    simp only [entryEnv, Nat.reduceAdd]
    repeat' (first | refine Y1 ?_ | refine U7 ?_ | refine U8 ?_ | refine U9 ?_ | refine Y2 ?_ | ((first | refine Y3 ?_ | refine Y8 ?_); simp only [tN, bN, eN, true_and]) | (apply U4; exact Z1; exact rfl; simp only [pM, pN, rR, rP]) | (refine J3 rfl rfl ?_ ?_; exact Z2) | (refine J4 rfl rfl ?_ ?_; exact Z2; simp only [pM, pN, rR, rP]) | (apply U3; exact rfl; exact rfl; exact Z1; refine ⟨fun hh => ?_, fun hh => ?_⟩ <;> try simp only [Bool.not_true, Bool.not_false, pM, pN] at hh ⊢) | (apply U5; exact rfl; exact Z3; simp only [pM, pN, rR, rP]) | (simp only [tP, bP, eP, true_and]) | (refine Y7 ?_; simp only [tR, bR, eR, true_and]) | (refine Y9 ?_; simp only [tX, bS, bO, Nat.reduceBEq, tN, bN]) | (refine Y4 ?_ ?_; exact Z2) | (refine Y5 ?_ ?_; exact Z2) | (apply Y6; exact Z1; refine ⟨fun hh => ?_, fun hh => ?_⟩))
    all_goals simp only [resV_def (X := dX i0) Tryz.func190, Tryz.results190, resultsV, resultV, go_sem, *, Nat.reduceLT, Int.reduceEq, Int.reduceBEq, Int.reduceLE, Int.reduceLT, Nat.reduceAdd, Nat.reduceBEq, Nat.reduceEqDiff, reduceIte, Nat.reduceLeDiff, Nat.reduceMul, Nat.reduceSub, reduceCtorEq, frzRes, dFrz, frzCells, isRet_ret, tupleOf]
    all_goals rfl
  · cases h
theorem K190 {X : Ctx} (hX : X.intr 190 = some (pureFn sp190)) (x off : Int) (h : Heap) : Cl X 190 [.int .i64 x, .int .i64 off] h (.ret (.agg [.int .i64 (w64 (x - off)), .int .i64 (w64 (x + off))]) h none) := Cl.intr hX rfl
def sp80 : List AV → Option AV
  | [.int .i64 x, .int .i64 y] => some (.agg [.int .i64 x, .int .i64 y])
  | _ => none
theorem p80 : ∀ args v, sp80 args = some v → v.pur = true := by
  intro args v h
  unfold sp80 at h
  split at h
  · cases h; rfl
  · cases h
set_option maxHeartbeats 200000 in
theorem F80 : IntrFn Tryz.prog 80 (pureFn sp80) := by
  refine pure_fn (X := (dX i0)) i0_sound p80 ?_
  intro args v h
  unfold sp80 at h
  split at h
  · cases h
    refine ClR.walk (c := _) rfl Tryz.func80 rfl (by kernel_rfl) rfl isRet_fail ?_
    simp only [entryEnv, Nat.reduceAdd]
    repeat' (first | refine Y1 ?_ | refine U7 ?_ | refine U8 ?_ | refine U9 ?_ | refine Y2 ?_ | ((first | refine Y3 ?_ | refine Y8 ?_); simp only [tN, bN, eN, true_and]) | (apply U4; exact Z1; exact rfl; simp only [pM, pN, rR, rP]) | (refine J3 rfl rfl ?_ ?_; exact Z2) | (refine J4 rfl rfl ?_ ?_; exact Z2; simp only [pM, pN, rR, rP]) | (apply U3; exact rfl; exact rfl; exact Z1; refine ⟨fun hh => ?_, fun hh => ?_⟩ <;> try simp only [Bool.not_true, Bool.not_false, pM, pN] at hh ⊢) | (apply U5; exact rfl; exact Z3; simp only [pM, pN, rR, rP]) | (simp only [tP, bP, eP, true_and]) | (refine Y7 ?_; simp only [tR, bR, eR, true_and]) | (refine Y9 ?_; simp only [tX, bS, bO, Nat.reduceBEq, tN, bN]) | (refine Y4 ?_ ?_; exact Z2) | (refine Y5 ?_ ?_; exact Z2) | (apply Y6; exact Z1; refine ⟨fun hh => ?_, fun hh => ?_⟩))
    all_goals simp only [resV_def (X := dX i0) Tryz.func80, Tryz.results80, resultsV, resultV, go_sem, *, Nat.reduceLT, Int.reduceEq, Int.reduceBEq, Int.reduceLE, Int.reduceLT, Nat.reduceAdd, Nat.reduceBEq, Nat.reduceEqDiff, reduceIte, Nat.reduceLeDiff, Nat.reduceMul, Nat.reduceSub, reduceCtorEq, frzRes, dFrz, frzCells, isRet_ret, tupleOf]
    all_goals rfl
  · cases h
def sp92 : List AV → Option AV
  | [.int .i64 x, .int .i64 y] => some (.agg [.int .i64 x, .int .i64 y])
  | _ => none
theorem p92 : ∀ args v, sp92 args = some v → v.pur = true := by
  intro args v h
  unfold sp92 at h
  split at h
  · cases h; rfl
  · cases h
set_option maxHeartbeats 200000 in
theorem F92 : IntrFn Tryz.prog 92 (pureFn sp92) := by
  refine pure_fn (X := (dX i0)) i0_sound p92 ?_
  intro args v h
  unfold sp92 at h
  split at h
  · cases h
    refine ClR.walk (c := _) rfl Tryz.func92 rfl (by kernel_rfl) rfl isRet_fail ?_
    simp only [entryEnv, Nat.reduceAdd]
    repeat' (first | refine Y1 ?_ | refine U7 ?_ | refine U8 ?_ | refine U9 ?_ | refine Y2 ?_ | ((first | refine Y3 ?_ | refine Y8 ?_); simp only [tN, bN, eN, true_and]) | (apply U4; exact Z1; exact rfl; simp only [pM, pN, rR, rP]) | (refine J3 rfl rfl ?_ ?_; exact Z2) | (refine J4 rfl rfl ?_ ?_; exact Z2; simp only [pM, pN, rR, rP]) | (apply U3; exact rfl; exact rfl; exact Z1; refine ⟨fun hh => ?_, fun hh => ?_⟩ <;> try simp only [Bool.not_true, Bool.not_false, pM, pN] at hh ⊢) | (apply U5; exact rfl; exact Z3; simp only [pM, pN, rR, rP]) | (simp only [tP, bP, eP, true_and]) | (refine Y7 ?_; simp only [tR, bR, eR, true_and]) | (refine Y9 ?_; simp only [tX, bS, bO, Nat.reduceBEq, tN, bN]) | (refine Y4 ?_ ?_; exact Z2) | (refine Y5 ?_ ?_; exact Z2) | (apply Y6; exact Z1; refine ⟨fun hh => ?_, fun hh => ?_⟩))
    all_goals simp only [resV_def (X := dX i0) Tryz.func92, Tryz.results92, resultsV, resultV, go_sem, *, Nat.reduceLT, Int.reduceEq, Int.reduceBEq, Int.reduceLE, Int.reduceLT, Nat.reduceAdd, Nat.reduceBEq, Nat.reduceEqDiff, reduceIte, Nat.reduceLeDiff, Nat.reduceMul, Nat.reduceSub, reduceCtorEq, frzRes, dFrz, frzCells, isRet_ret, tupleOf]
    all_goals rfl
  · cases h
def sp252 : List AV → Option AV
  | [.int .i64 x] => some (.int .i64 x)
  | _ => none
theorem p252 : ∀ args v, sp252 args = some v → v.pur = true := by
  intro args v h
  unfold sp252 at h
  split at h
  · cases h; rfl
  · cases h
set_option maxHeartbeats 200000 in
theorem F252 : IntrFn Tryz.prog 252 (pureFn sp252) := by
  refine pure_fn (X := (dX i0)) i0_sound p252 ?_
  intro args v h
  unfold sp252 at h
  split at h
  · cases h
    refine ClR.walk (c := _) rfl Tryz.func252 rfl (by kernel_rfl) rfl isRet_fail ?_
    simp only [entryEnv, Nat.reduceAdd]
    repeat' (first | refine Y1 ?_ | refine U7 ?_ | refine U8 ?_ | refine U9 ?_ | refine Y2 ?_ | ((first | refine Y3 ?_ | refine Y8 ?_); simp only [tN, bN, eN, true_and]) | (apply U4; exact Z1; exact rfl; simp only [pM, pN, rR, rP]) | (refine J3 rfl rfl ?_ ?_; exact Z2) | (refine J4 rfl rfl ?_ ?_; exact Z2; simp only [pM, pN, rR, rP]) | (apply U3; exact rfl; exact rfl; exact Z1; refine ⟨fun hh => ?_, fun hh => ?_⟩ <;> try simp only [Bool.not_true, Bool.not_false, pM, pN] at hh ⊢) | (apply U5; exact rfl; exact Z3; simp only [pM, pN, rR, rP]) | (simp only [tP, bP, eP, true_and]) | (refine Y7 ?_; simp only [tR, bR, eR, true_and]) | (refine Y9 ?_; simp only [tX, bS, bO, Nat.reduceBEq, tN, bN]) | (refine Y4 ?_ ?_; exact Z2) | (refine Y5 ?_ ?_; exact Z2) | (apply Y6; exact Z1; refine ⟨fun hh => ?_, fun hh => ?_⟩))
    all_goals simp only [resV_def (X := dX i0) Tryz.func252, Tryz.results252, resultsV, resultV, go_sem, *, Nat.reduceLT, Int.reduceEq, Int.reduceBEq, Int.reduceLE, Int.reduceLT, Nat.reduceAdd, Nat.reduceBEq, Nat.reduceEqDiff, reduceIte, Nat.reduceLeDiff, Nat.reduceMul, Nat.reduceSub, reduceCtorEq, frzRes, dFrz, frzCells, isRet_ret, tupleOf]
    all_goals rfl
  · cases h
theorem K252 {X : Ctx} (hX : X.intr 252 = some (pureFn sp252)) (x : Int) (h : Heap) : Cl X 252 [.int .i64 x] h (.ret (.int .i64 x) h none) := Cl.intr hX rfl
def sp253 : List AV → Option AV
  | [.int .i64 x] => some (.int .i64 x)
  | _ => none
theorem p253 : ∀ args v, sp253 args = some v → v.pur = true := by
  intro args v h
  unfold sp253 at h
  split at h
  · cases h; rfl
  · cases h
set_option maxHeartbeats 200000 in
theorem F253 : IntrFn Tryz.prog 253 (pureFn sp253) := by
  refine pure_fn (X := (dX i0)) i0_sound p253 ?_
  intro args v h
  unfold sp253 at h
  split at h
  · cases h
    refine ClR.walk (c := _) rfl Tryz.func253 rfl (by kernel_rfl) rfl isRet_fail ?_
    simp only [entryEnv, Nat.reduceAdd]
    repeat' (first | refine Y1 ?_ | refine U7 ?_ | refine U8 ?_ | refine U9 ?_ | refine Y2 ?_ | ((first | refine Y3 ?_ | refine Y8 ?_); simp only [tN, bN, eN, true_and]) | (apply U4; exact Z1; exact rfl; simp only [pM, pN, rR, rP]) | (refine J3 rfl rfl ?_ ?_; exact Z2) | (refine J4 rfl rfl ?_ ?_; exact Z2; simp only [pM, pN, rR, rP]) | (apply U3; exact rfl; exact rfl; exact Z1; refine ⟨fun hh => ?_, fun hh => ?_⟩ <;> try simp only [Bool.not_true, Bool.not_false, pM, pN] at hh ⊢) | (apply U5; exact rfl; exact Z3; simp only [pM, pN, rR, rP]) | (simp only [tP, bP, eP, true_and]) | (refine Y7 ?_; simp only [tR, bR, eR, true_and]) | (refine Y9 ?_; simp only [tX, bS, bO, Nat.reduceBEq, tN, bN]) | (refine Y4 ?_ ?_; exact Z2) | (refine Y5 ?_ ?_; exact Z2) | (apply Y6; exact Z1; refine ⟨fun hh => ?_, fun hh => ?_⟩))
    all_goals simp only [resV_def (X := dX i0) Tryz.func253, Tryz.results253, resultsV, resultV, go_sem, *, Nat.reduceLT, Int.reduceEq, Int.reduceBEq, Int.reduceLE, Int.reduceLT, Nat.reduceAdd, Nat.reduceBEq, Nat.reduceEqDiff, reduceIte, Nat.reduceLeDiff, Nat.reduceMul, Nat.reduceSub, reduceCtorEq, frzRes, dFrz, frzCells, isRet_ret, tupleOf]
    all_goals rfl
  · cases h
theorem K253 {X : Ctx} (hX : X.intr 253 = some (pureFn sp253)) (x : Int) (h : Heap) : Cl X 253 [.int .i64 x] h (.ret (.int .i64 x) h none) := Cl.intr hX rfl
def sp158 : List AV → Option AV
  | [.agg [.int .i64 ax, .int .i64 ay], .agg [.int .i64 bx, .int .i64 by_]] => some (.agg [.int .i64 (maxV ax bx), .int .i64 (minV ay by_)])
  | _ => none
theorem p158 : ∀ args v, sp158 args = some v → v.pur = true := by
  intro args v h
  unfold sp158 at h
  split at h
  · cases h; rfl
  · cases h
set_option maxHeartbeats 200000 in
theorem F158 : IntrFn Tryz.prog 158 (pureFn sp158) := by
  refine pure_fn (X := (dX i0)) i0_sound p158 ?_
  intro args v h
  unfold sp158 at h
  split at h
  · cases h
    refine ClR.walk (c := _) rfl Tryz.func158 rfl (by kernel_rfl) rfl isRet_fail ?_
    simp only [entryEnv, Nat.reduceAdd]
    repeat' (first | refine Y1 ?_ | refine U7 ?_ | refine U8 ?_ | refine U9 ?_ | refine Y2 ?_ | ((first | refine Y3 ?_ | refine Y8 ?_); simp only [tN, bN, eN, true_and]) | (apply U4; exact Z1; exact rfl; simp only [pM, pN, rR, rP]) | (refine J3 rfl rfl ?_ ?_; exact Z2) | (refine J4 rfl rfl ?_ ?_; exact Z2; simp only [pM, pN, rR, rP]) | (apply U3; exact rfl; exact rfl; exact Z1; refine ⟨fun hh => ?_, fun hh => ?_⟩ <;> try simp only [Bool.not_true, Bool.not_false, pM, pN] at hh ⊢) | (apply U5; exact rfl; exact Z3; simp only [pM, pN, rR, rP]) | (simp only [tP, bP, eP, true_and]) | (refine Y7 ?_; simp only [tR, bR, eR, true_and]) | (refine Y9 ?_; simp only [tX, bS, bO, Nat.reduceBEq, tN, bN]) | (refine Y4 ?_ ?_; exact Z2) | (refine Y5 ?_ ?_; exact Z2) | (apply Y6; exact Z1; refine ⟨fun hh => ?_, fun hh => ?_⟩))
    all_goals simp only [resV_def (X := dX i0) Tryz.func158, Tryz.results158, resultsV, resultV, go_sem, *, Nat.reduceLT, Int.reduceEq, Int.reduceBEq, Int.reduceLE, Int.reduceLT, Nat.reduceAdd, Nat.reduceBEq, Nat.reduceEqDiff, reduceIte, Nat.reduceLeDiff, Nat.reduceMul, Nat.reduceSub, reduceCtorEq, frzRes, dFrz, frzCells, isRet_ret, tupleOf]
    all_goals rfl
  · cases h
theorem K158 {X : Ctx} (hX : X.intr 158 = some (pureFn sp158)) (ax ay bx by_ : Int) (h : Heap) : Cl X 158 [.agg [.int .i64 ax, .int .i64 ay], .agg [.int .i64 bx, .int .i64 by_]] h (.ret (.agg [.int .i64 (maxV ax bx), .int .i64 (minV ay by_)]) h none) := Cl.intr hX rfl
def sp174 : List AV → Option AV
  | [.int .i64 n, .agg [.int .i64 sx, .int .i64 sy]] => some (.int .i64 (maxV sx (minV sy n)))
  | _ => none
theorem p174 : ∀ args v, sp174 args = some v → v.pur = true := by
  intro args v h
  unfold sp174 at h
  split at h
  · cases h; rfl
  · cases h
set_option maxHeartbeats 200000 in
theorem F174 : IntrFn Tryz.prog 174 (pureFn sp174) := by
  refine pure_fn (X := (dX i0)) i0_sound p174 ?_
  intro args v h
  unfold sp174 at h
  split at h
  · cases h
    refine ClR.walk (c := _) rfl Tryz.func174 rfl (by kernel_rfl) rfl isRet_fail ?_
    simp only [entryEnv, Nat.reduceAdd]
    repeat' (first | refine Y1 ?_ | refine U7 ?_ | refine U8 ?_ | refine U9 ?_ | refine Y2 ?_ | ((first | refine Y3 ?_ | refine Y8 ?_); simp only [tN, bN, eN, true_and]) | (apply U4; exact Z1; exact rfl; simp only [pM, pN, rR, rP]) | (refine J3 rfl rfl ?_ ?_; exact Z2) | (refine J4 rfl rfl ?_ ?_; exact Z2; simp only [pM, pN, rR, rP]) | (apply U3; exact rfl; exact rfl; exact Z1; refine ⟨fun hh => ?_, fun hh => ?_⟩ <;> try simp only [Bool.not_true, Bool.not_false, pM, pN] at hh ⊢) | (apply U5; exact rfl; exact Z3; simp only [pM, pN, rR, rP]) | (simp only [tP, bP, eP, true_and]) | (refine Y7 ?_; simp only [tR, bR, eR, true_and]) | (refine Y9 ?_; simp only [tX, bS, bO, Nat.reduceBEq, tN, bN]) | (refine Y4 ?_ ?_; exact Z2) | (refine Y5 ?_ ?_; exact Z2) | (apply Y6; exact Z1; refine ⟨fun hh => ?_, fun hh => ?_⟩))
    all_goals simp only [resV_def (X := dX i0) Tryz.func174, Tryz.results174, resultsV, resultV, go_sem, *, Nat.reduceLT, Int.reduceEq, Int.reduceBEq, Int.reduceLE, Int.reduceLT, Nat.reduceAdd, Nat.reduceBEq, Nat.reduceEqDiff, reduceIte, Nat.reduceLeDiff, Nat.reduceMul, Nat.reduceSub, reduceCtorEq, frzRes, dFrz, frzCells, isRet_ret, tupleOf]
    all_goals rfl
  · cases h
def sp135 : List AV → Option AV
  | [.agg [.int .i64 sx, .int .i64 sy], .int .i64 lo, .int .i64 hi, .int .i64 wide] => some (.bool (spanB sx sy lo hi wide))
  | _ => none
theorem p135 : ∀ args v, sp135 args = some v → v.pur = true := by
  intro args v h
  unfold sp135 at h
  split at h
  · cases h; rfl
  · cases h
set_option maxHeartbeats 200000 in
theorem F135 : IntrFn Tryz.prog 135 (pureFn sp135) := by
  refine pure_fn (X := (dX i0)) i0_sound p135 ?_
  intro args v h
  unfold sp135 at h
  split at h
  · cases h
    rename_i sx sy lo hi wide
    refine ClR.walk (c := _) rfl Tryz.func135 rfl (by kernel_rfl) rfl isRet_fail ?_
    simp only [entryEnv, Nat.reduceAdd]
    repeat' (first | refine Y1 ?_ | refine U7 ?_ | refine U8 ?_ | refine U9 ?_ | refine Y2 ?_ | ((first | refine Y3 ?_ | refine Y8 ?_); simp only [tN, bN, eN, true_and]) | (apply U4; exact Z1; exact rfl; simp only [pM, pN, rR, rP]) | (refine J3 rfl rfl ?_ ?_; exact Z2) | (refine J4 rfl rfl ?_ ?_; exact Z2; simp only [pM, pN, rR, rP]) | (apply U3; exact rfl; exact rfl; exact Z1; refine ⟨fun hh => ?_, fun hh => ?_⟩ <;> try simp only [Bool.not_true, Bool.not_false, pM, pN] at hh ⊢) | (apply U5; exact rfl; exact Z3; simp only [pM, pN, rR, rP]) | (simp only [tP, bP, eP, true_and]) | (refine Y7 ?_; simp only [tR, bR, eR, true_and]) | (refine Y9 ?_; simp only [tX, bS, bO, Nat.reduceBEq, tN, bN]) | (refine Y4 ?_ ?_; exact Z2) | (refine Y5 ?_ ?_; exact Z2) | (apply Y6; exact Z1; refine ⟨fun hh => ?_, fun hh => ?_⟩))
    all_goals simp only [resV_def (X := dX i0) Tryz.func135, Tryz.results135, resultsV, resultV, go_sem, *, Nat.reduceLT, Int.reduceEq, Int.reduceBEq, Int.reduceLE, Int.reduceLT, Nat.reduceAdd, Nat.reduceBEq, Nat.reduceEqDiff, reduceIte, Nat.reduceLeDiff, Nat.reduceMul, Nat.reduceSub, reduceCtorEq, frzRes, dFrz, frzCells, isRet_ret, tupleOf]
    all_goals first | (simp [spanB, w64, *]; done) | (simp [spanB, w64, *]; rfl)
  · cases h
theorem K135 {X : Ctx} (hX : X.intr 135 = some (pureFn sp135)) (sx sy lo hi wide : Int) (h : Heap) : Cl X 135 [.agg [.int .i64 sx, .int .i64 sy], .int .i64 lo, .int .i64 hi, .int .i64 wide] h (.ret (.bool (spanB sx sy lo hi wide)) h none) := Cl.intr hX rfl
def sp151 : List AV → Option AV
  | [.agg [.int .i64 sx, .int .i64 sy], .int .i64 most, .int .i64 wide] => some (.bool (spanB sx sy (w64 (-most)) most wide))
  | _ => none
theorem p151 : ∀ args v, sp151 args = some v → v.pur = true := by
  intro args v h
  unfold sp151 at h
  split at h
  · cases h; rfl
  · cases h
set_option maxHeartbeats 200000 in
theorem F151 : IntrFn Tryz.prog 151 (pureFn sp151) := by
  refine pure_fn (X := (dX i0)) i0_sound p151 ?_
  intro args v h
  unfold sp151 at h
  split at h
  · cases h
    rename_i sx sy most wide
    refine ClR.walk (c := _) rfl Tryz.func151 rfl (by kernel_rfl) rfl isRet_fail ?_
    simp only [entryEnv, Nat.reduceAdd]
    repeat' (first | refine Y1 ?_ | refine U7 ?_ | refine U8 ?_ | refine U9 ?_ | refine Y2 ?_ | ((first | refine Y3 ?_ | refine Y8 ?_); simp only [tN, bN, eN, true_and]) | (apply U4; exact Z1; exact rfl; simp only [pM, pN, rR, rP]) | (refine J3 rfl rfl ?_ ?_; exact Z2) | (refine J4 rfl rfl ?_ ?_; exact Z2; simp only [pM, pN, rR, rP]) | (apply U3; exact rfl; exact rfl; exact Z1; refine ⟨fun hh => ?_, fun hh => ?_⟩ <;> try simp only [Bool.not_true, Bool.not_false, pM, pN] at hh ⊢) | (apply U5; exact rfl; exact Z3; simp only [pM, pN, rR, rP]) | (simp only [tP, bP, eP, true_and]) | (refine Y7 ?_; simp only [tR, bR, eR, true_and]) | (refine Y9 ?_; simp only [tX, bS, bO, Nat.reduceBEq, tN, bN]) | (refine Y4 ?_ ?_; exact Z2) | (refine Y5 ?_ ?_; exact Z2) | (apply Y6; exact Z1; refine ⟨fun hh => ?_, fun hh => ?_⟩))
    all_goals simp only [resV_def (X := dX i0) Tryz.func151, Tryz.results151, resultsV, resultV, go_sem, *, Nat.reduceLT, Int.reduceEq, Int.reduceBEq, Int.reduceLE, Int.reduceLT, Nat.reduceAdd, Nat.reduceBEq, Nat.reduceEqDiff, reduceIte, Nat.reduceLeDiff, Nat.reduceMul, Nat.reduceSub, reduceCtorEq, frzRes, dFrz, frzCells, isRet_ret, tupleOf]
    all_goals first | (simp [spanB, w64, *]; done) | (simp [spanB, w64, *]; rfl)
  · cases h
theorem K151 {X : Ctx} (hX : X.intr 151 = some (pureFn sp151)) (sx sy most wide : Int) (h : Heap) : Cl X 151 [.agg [.int .i64 sx, .int .i64 sy], .int .i64 most, .int .i64 wide] h (.ret (.bool (spanB sx sy (w64 (-most)) most wide)) h none) := Cl.intr hX rfl
noncomputable def cA : FuncId → Option (List AV → Heap → Option (AV × Heap))
  | 93 => some (pureFn sp93)
  | 97 => some (pureFn sp97)
  | 190 => some (pureFn sp190)
  | 80 => some (pureFn sp80)
  | 92 => some (pureFn sp92)
  | 252 => some (pureFn sp252)
  | 253 => some (pureFn sp253)
  | 158 => some (pureFn sp158)
  | 174 => some (pureFn sp174)
  | 135 => some (pureFn sp135)
  | 151 => some (pureFn sp151)
  | _ => none
theorem cA_sound : Sound (dX cA) := dX_sound (fun f g h => by
  unfold cA at h
  split at h
  · cases h; exact F93
  · cases h; exact F97
  · cases h; exact F190
  · cases h; exact F80
  · cases h; exact F92
  · cases h; exact F252
  · cases h; exact F253
  · cases h; exact F158
  · cases h; exact F174
  · cases h; exact F135
  · cases h; exact F151
  · cases h)
end Go.AM
set_option maxRecDepth 100000
namespace Go.AM
open Go Go.Proofs
variable [Keep]
attribute [local irreducible] W WO WO1 WD WQ WT thenQ blockQ endR isRet retK Cl ClR
structure Pt where
  x : Int
  y : Int
  deriving DecidableEq
def ptC : Cd Pt where
  enc p := .agg [.int .i64 p.x, .int .i64 p.y]
  dec a := match a with | .agg [.int .i64 x, .int .i64 y] => some ⟨x, y⟩ | _ => none
  de _ := rfl
  ed a x h := by split at h <;> cases h; rfl
  pur _ := rfl
theorem pts_idx {a : AV} {l : List Pt} (h : slV ptC a = some l) {k : Nat} {p : Pt} (hp : l[k]? = some p) (H : Heap) : indexAddrV Tryz.prog H 22 a (.int .i64 ↑k) = some (.vptr [.int .i64 p.x, .int .i64 p.y]) :=
  (slV_is h).1.idx (x := ptC.enc p) Tryz.underlying22 ty_lay38 (by simp [hp]) rfl
theorem sl_len {α : Type} {c : Cd α} {a : AV} {l : List α} (h : slV c a = some l) : lenS a = some l.length := by rw [(slV_is h).1.len]; simp
theorem sl_out {α : Type} {c : Cd α} {a : AV} {l : List α} (h : slV c a = some l) : outV (some a) = some a := (slV_is h).1.out
theorem sl_pur {α : Type} {c : Cd α} {a : AV} {l : List α} (h : slV c a = some l) : a.pur = true := (slV_is h).1.pur (enc_pur c l)
theorem sl_max {α : Type} {c : Cd α} {a : AV} {l : List α} (h : slV c a = some l) : l.length ≤ maxL := (slV_is h).2
theorem take_next {α : Type} {l : List α} {k : Nat} {p : α} (h : l[k]? = some p) : l.take (k + 1) = l.take k ++ [p] := by
  rw [List.take_add_one, h]; rfl
theorem get_some {α : Type} {l : List α} {k : Nat} (h : k < l.length) : ∃ p, l[k]? = some p := ⟨l[k], by simp [h]⟩
def okPt (far : Int) (p : Pt) : Bool := inB p.x (w64 (-far)) far && inB p.y (w64 (-far)) far
def pointsB (l : List Pt) (least most far : Int) : Bool := l.all (okPt far) && inB l.length least most
theorem points_false {l : List Pt} {k : Nat} {p : Pt} {least most far : Int} (h : l[k]? = some p) (hf : okPt far p = false) : pointsB l least most far = false := by
  have : l.all (okPt far) = false := by
    rw [Bool.eq_false_iff]
    intro h2
    have := List.all_eq_true.1 h2 p (List.mem_of_getElem? h)
    rw [hf] at this
    cases this
  simp [pointsB, this]
def sp28 : List AV → Option AV
  | [a, .int .i64 least, .int .i64 most, .int .i64 far] => (slV ptC a).map fun l => .bool (pointsB l least most far)
  | _ => none
theorem p28 : ∀ args v, sp28 args = some v → v.flat = true := by
  intro args v h
  unfold sp28 at h
  split at h
  · simp only [Option.map_eq_some_iff] at h; obtain ⟨l, _, rfl⟩ := h; rfl
  · cases h
set_option maxHeartbeats 2000000 in
theorem F28 : IntrFn Tryz.prog 28 (flatFn sp28) := by
  refine flat_fn (X := dX cA) cA_sound p28 ?_
  intro args v h
  unfold sp28 at h
  split at h
  · rename_i a least most far
    simp only [Option.map_eq_some_iff] at h
    obtain ⟨l, hl, rfl⟩ := h
    have hlen := sl_len hl
    have hout := sl_out hl
    have hmax := sl_max hl
    refine ClR.walk (c := _) rfl Tryz.func28 rfl (by kernel_rfl) rfl isRet_fail ?_
    simp only [entryEnv, Nat.reduceAdd]
    repeat' (first | refine Y1 ?_ | refine U7 ?_ | refine U8 ?_ | refine U9 ?_ | refine Y2 ?_ | ((first | refine Y3 ?_ | refine Y8 ?_); simp only [tN, bN, eN, true_and]) | (apply U4; exact Z1; exact rfl; simp only [pM, pN, rR, rP]) | (refine J3 rfl rfl ?_ ?_; exact Z2) | (refine J4 rfl rfl ?_ ?_; exact Z2; simp only [pM, pN, rR, rP]) | (apply U3; exact rfl; exact rfl; exact Z1; refine ⟨fun hh => ?_, fun hh => ?_⟩ <;> try simp only [Bool.not_true, Bool.not_false, pM, pN] at hh ⊢) | (apply U6; exact Z1; exact Z1; (focus (simp only [List.nil_append, List.append_nil]; first | exact K97 rfl _ _ _ _)); simp only [pM, pN, rR, rP]) | (apply U5; exact rfl; exact Z3; simp only [pM, pN, rR, rP]) | (simp only [tP, bP, eP, true_and]) | (refine Y7 ?_; simp only [tR, bR, eR, true_and]) | (refine Y9 ?_; simp only [tX, bS, bO, Nat.reduceBEq, tN, bN]) | (refine Y4 ?_ ?_; exact Z2) | (refine Y5 ?_ ?_; exact Z2) | (apply Y6; exact Z1; refine ⟨fun hh => ?_, fun hh => ?_⟩))
    refine W.loopN l.length (fun k F => ∃ e, F = Fr.mk 28 false e .nil emptyHp [] none ∧ e.get 0 = some a ∧ e.get 1 = some (.int .i64 least) ∧ e.get 2 = some (.int .i64 most) ∧ e.get 3 = some (.int .i64 far) ∧ e.get 9 = some (.int .i64 ↑k) ∧ k ≤ l.length ∧ (l.take k).all (okPt far) = true) ?_ ?_
    · refine ⟨_, rfl, ?_, ?_, ?_, ?_, ?_, ?_, ?_⟩ <;> simp [go_sem, *]
    rintro k F ⟨e, rfl, h0, h1, h2, h3, h9, hk, hall⟩
    by_cases hlt : k < l.length
    · obtain ⟨p, hp⟩ := get_some hlt
      have hix := pts_idx hl hp
      have hd : decide ((k : Int) < (l.length : Int)) = true := by simpa using hlt
      have hw := wrap_succ hlt hmax
      have hnx := take_next hp
      clear hl
      repeat' (first | refine Y1 ?_ | refine U7 ?_ | refine U8 ?_ | refine U9 ?_ | refine Y2 ?_ | ((first | refine Y3 ?_ | refine Y8 ?_); simp only [tN, bN, eN, true_and]) | (apply U4; exact Z1; exact rfl; simp only [pM, pN, rR, rP]) | (refine J3 rfl rfl ?_ ?_; exact Z2) | (refine J4 rfl rfl ?_ ?_; exact Z2; simp only [pM, pN, rR, rP]) | (apply U3; exact rfl; exact rfl; exact Z1; refine ⟨fun hh => ?_, fun hh => ?_⟩ <;> try simp only [Bool.not_true, Bool.not_false, pM, pN] at hh ⊢) | (apply U6; exact Z1; exact Z1; (focus (simp only [List.nil_append, List.append_nil]; first | exact K97 rfl _ _ _ _)); simp only [pM, pN, rR, rP]) | (apply U5; exact rfl; exact Z3; simp only [pM, pN, rR, rP]) | (simp only [tP, bP, eP, true_and]) | (refine Y7 ?_; simp only [tR, bR, eR, true_and]) | (refine Y9 ?_; simp only [tX, bS, bO, Nat.reduceBEq, tN, bN]) | (refine Y4 ?_ ?_; exact Z2) | (refine Y5 ?_ ?_; exact Z2) | (apply Y6; exact Z1; refine ⟨fun hh => ?_, fun hh => ?_⟩))
      all_goals first
        | (refine ⟨hlt, _, rfl, ?_, ?_, ?_, ?_, ?_, by omega, ?_⟩ <;> first | exact Z2 | simp_all [okPt, w64])
        | (simp only [resV_def (X := dX cA) Tryz.func28, Tryz.results28, resultsV, resultV, go_sem, *, Nat.reduceLT, Int.reduceEq, Int.reduceBEq, Int.reduceLE, Int.reduceLT, Nat.reduceAdd, Nat.reduceBEq, Nat.reduceEqDiff, reduceIte, Nat.reduceLeDiff, Nat.reduceMul, Nat.reduceSub, reduceCtorEq, frzRes, dFrz, frzCells, isRet_ret, tupleOf]; rw [points_false hp (by simp_all [okPt, w64])])
    · have hd : decide ((k : Int) < (l.length : Int)) = false := by simpa using hlt
      have hkl : k = l.length := by omega
      subst hkl
      rw [List.take_length] at hall
      repeat' (first | refine Y1 ?_ | refine U7 ?_ | refine U8 ?_ | refine U9 ?_ | refine Y2 ?_ | ((first | refine Y3 ?_ | refine Y8 ?_); simp only [tN, bN, eN, true_and]) | (apply U4; exact Z1; exact rfl; simp only [pM, pN, rR, rP]) | (refine J3 rfl rfl ?_ ?_; exact Z2) | (refine J4 rfl rfl ?_ ?_; exact Z2; simp only [pM, pN, rR, rP]) | (apply U3; exact rfl; exact rfl; exact Z1; refine ⟨fun hh => ?_, fun hh => ?_⟩ <;> try simp only [Bool.not_true, Bool.not_false, pM, pN] at hh ⊢) | (apply U6; exact Z1; exact Z1; (focus (simp only [List.nil_append, List.append_nil]; first | exact K97 rfl _ _ _ _)); simp only [pM, pN, rR, rP]) | (apply U5; exact rfl; exact Z3; simp only [pM, pN, rR, rP]) | (simp only [tP, bP, eP, true_and]) | (refine Y7 ?_; simp only [tR, bR, eR, true_and]) | (refine Y9 ?_; simp only [tX, bS, bO, Nat.reduceBEq, tN, bN]) | (refine Y4 ?_ ?_; exact Z2) | (refine Y5 ?_ ?_; exact Z2) | (apply Y6; exact Z1; refine ⟨fun hh => ?_, fun hh => ?_⟩))
      all_goals simp only [resV_def (X := dX cA) Tryz.func28, Tryz.results28, resultsV, resultV, go_sem, *, Nat.reduceLT, Int.reduceEq, Int.reduceBEq, Int.reduceLE, Int.reduceLT, Nat.reduceAdd, Nat.reduceBEq, Nat.reduceEqDiff, reduceIte, Nat.reduceLeDiff, Nat.reduceMul, Nat.reduceSub, reduceCtorEq, frzRes, dFrz, frzCells, isRet_ret, tupleOf]
      all_goals simp [pointsB, hall]
  · cases h
end Go.AM
set_option maxRecDepth 100000
namespace Go.AM
open Go Go.Proofs
variable [Keep]
attribute [local irreducible] W WO WO1 WD WQ WT thenQ blockQ endR isRet retK Cl ClR
def flatL (l : List Pt) : List Int := l.flatMap fun p => [p.x, p.y]
theorem flatL_take {l : List Pt} {k : Nat} {p : Pt} (h : l[k]? = some p) : flatL (l.take (k + 1)) = flatL (l.take k) ++ [p.x, p.y] := by
  rw [take_next h]; simp [flatL]
theorem flatL_len (l : List Pt) : (flatL l).length = 2 * l.length := by
  induction l with
  | nil => rfl
  | cons p l ih => simp only [flatL, List.flatMap_cons, List.length_append, List.length_cons, List.length_nil] at ih ⊢; omega
def sp98 : List AV → Option AV
  | [a] => (slV ptC a).map fun l => slN ((flatL l).map intC.enc)
  | _ => none
theorem slN_pur {l : List AV} (h : ∀ x ∈ l, x.pur = true) : (slN l).pur = true := (slN_is l).pur h
theorem p98 : ∀ args v, sp98 args = some v → v.pur = true := by
  intro args v h
  unfold sp98 at h
  split at h
  · simp only [Option.map_eq_some_iff] at h; obtain ⟨l, _, rfl⟩ := h; exact slN_pur (enc_pur _ _)
  · cases h
set_option maxHeartbeats 400000 in
theorem F98 : IntrFn Tryz.prog 98 (pureFn sp98) := by
  refine pure_fn (X := dX cA) cA_sound p98 ?_
  intro args v h
  unfold sp98 at h
  split at h
  · rename_i a
    simp only [Option.map_eq_some_iff] at h
    obtain ⟨l, hl, rfl⟩ := h
    have hlen := sl_len hl
    have hout := sl_out hl
    have hmax := sl_max hl
    refine ClR.walk (c := _) rfl Tryz.func98 rfl (by kernel_rfl) rfl isRet_fail ?_
    simp only [entryEnv, Nat.reduceAdd]
    repeat' (first | (apply W.drawQ (id := 5) (l1 := [0, 1, 2, 3, 4, 5, 6, 7, 8, 9, 10, 11]) (l2 := [12, 13]); kernel_rfl; kernel_rfl; kernel_rfl; exact Z4) | (refine ⟨⟨trivial, trivial⟩, ?_⟩) | (refine ⟨⟨rfl, rfl⟩, ?_⟩) | (refine Z5 rfl rfl ?_) | (refine Z8 rfl rfl ?_) | (refine Z6 ?_) | (refine Z9 ?_; simp only [tN, bN, eN, true_and]) | (apply Z7; exact rfl; exact rfl; exact Z1; simp only [pM, pN]) | refine Y1 ?_ | refine U7 ?_ | refine U8 ?_ | refine U9 ?_ | refine Y2 ?_ | ((first | refine Y3 ?_ | refine Y8 ?_); simp only [tN, bN, eN, true_and]) | (apply U4; exact Z1; exact rfl; simp only [pM, pN, rR, rP]) | (refine J3 rfl rfl ?_ ?_; exact Z2) | (refine J4 rfl rfl ?_ ?_; exact Z2; simp only [pM, pN, rR, rP]) | (apply U3; exact rfl; exact rfl; exact Z1; refine ⟨fun hh => ?_, fun hh => ?_⟩ <;> try simp only [Bool.not_true, Bool.not_false, pM, pN] at hh ⊢) | (apply U5; exact rfl; exact Z3; simp only [pM, pN, rR, rP]) | (simp only [tP, bP, eP, true_and]) | (refine Y7 ?_; simp only [tR, bR, eR, true_and]) | (refine Y9 ?_; simp only [tX, bS, bO, Nat.reduceBEq, tN, bN]) | (refine Y4 ?_ ?_; exact Z2) | (refine Y5 ?_ ?_; exact Z2) | (apply Y6; exact Z1; refine ⟨fun hh => ?_, fun hh => ?_⟩))
    refine W.loopN l.length (fun k F => ∃ e hp u, F = Fr.mk 98 false e .nil hp [] none ∧ Blt hp u 1 ((flatL (l.take k)).map intC.enc) ∧ e.get 0 = some a ∧ e.get 3 = some u ∧ e.get 4 = some (.int .i64 ↑k) ∧ k ≤ l.length) ?_ ?_
    · refine ⟨_, _, _, rfl, Blt.nil, ?_, ?_, ?_, ?_⟩ <;> simp [go_sem, *]
    rintro k F ⟨e, hp0, u, rfl, hB, h0, h3, h4, hk⟩
    have hbo := hB.out
    by_cases hlt : k < l.length
    · obtain ⟨p, hp⟩ := get_some hlt
      have hix := pts_idx hl hp
      have hd : decide ((k : Int) < (l.length : Int)) = true := by simpa using hlt
      have hw := wrap_succ hlt hmax
      have hfl := flatL_take hp
      have hll : ((flatL (l.take k)).map intC.enc).length + 2 ≤ most := by
        have := flatL_len (l.take k)
        simp only [List.length_map, List.length_take] at this ⊢
        unfold most; unfold maxL at hmax; omega
      clear hl hp
      repeat' (first | (apply WO1.append (t := 39) (u := 39) (e := 3) (e' := 3) (sz := 1) (tl := []); (focus assumption); exact Z1; exact rfl; (focus exact Z2); (focus exact Z2); (focus exact Z2); (focus (exact ty_row39)); exact Z1; (focus (intro v hv; simp at hv; rcases hv with rfl | rfl <;> rfl)); (focus (simp; simp at *; omega)); (focus (simp)); (intro v' h' hB' ho' hK'; simp only [pM, pN])) | (apply W.drawQ (id := 5) (l1 := [0, 1, 2, 3, 4, 5, 6, 7, 8, 9, 10, 11]) (l2 := [12, 13]); kernel_rfl; kernel_rfl; kernel_rfl; exact Z4) | (refine ⟨⟨trivial, trivial⟩, ?_⟩) | (refine ⟨⟨rfl, rfl⟩, ?_⟩) | (refine Z5 rfl rfl ?_) | (refine Z8 rfl rfl ?_) | (refine Z6 ?_) | (refine Z9 ?_; simp only [tN, bN, eN, true_and]) | (apply Z7; exact rfl; exact rfl; exact Z1; simp only [pM, pN]) | refine Y1 ?_ | refine U7 ?_ | refine U8 ?_ | refine U9 ?_ | refine Y2 ?_ | ((first | refine Y3 ?_ | refine Y8 ?_); simp only [tN, bN, eN, true_and]) | (apply U4; exact Z1; exact rfl; simp only [pM, pN, rR, rP]) | (refine J3 rfl rfl ?_ ?_; exact Z2) | (refine J4 rfl rfl ?_ ?_; exact Z2; simp only [pM, pN, rR, rP]) | (apply U3; exact rfl; exact rfl; exact Z1; refine ⟨fun hh => ?_, fun hh => ?_⟩ <;> try simp only [Bool.not_true, Bool.not_false, pM, pN] at hh ⊢) | (apply U5; exact rfl; exact Z3; simp only [pM, pN, rR, rP]) | (simp only [tP, bP, eP, true_and]) | (refine Y7 ?_; simp only [tR, bR, eR, true_and]) | (refine Y9 ?_; simp only [tX, bS, bO, Nat.reduceBEq, tN, bN]) | (refine Y4 ?_ ?_; exact Z2) | (refine Y5 ?_ ?_; exact Z2) | (apply Y6; exact Z1; refine ⟨fun hh => ?_, fun hh => ?_⟩))
      refine ⟨hlt, _, _, v', rfl, ?_, ?_, ?_, ?_, by omega⟩
      · rw [hfl]; simpa [intC] using hB'
      all_goals exact Z2
    · have hd : decide ((k : Int) < (l.length : Int)) = false := by simpa using hlt
      have hkl : k = l.length := by omega
      subst hkl
      rw [List.take_length] at hB
      obtain ⟨h', hz, hz2, hz1⟩ := hB.freeze
      repeat' (first | (refine ⟨⟨trivial, trivial⟩, ?_⟩) | (refine ⟨⟨rfl, rfl⟩, ?_⟩) | (refine Z5 rfl rfl ?_) | (refine Z8 rfl rfl ?_) | (refine Z6 ?_) | (refine Z9 ?_; simp only [tN, bN, eN, true_and]) | (apply Z7; exact rfl; exact rfl; exact Z1; simp only [pM, pN]) | refine Y1 ?_ | refine U7 ?_ | refine U8 ?_ | refine U9 ?_ | refine Y2 ?_ | ((first | refine Y3 ?_ | refine Y8 ?_); simp only [tN, bN, eN, true_and]) | (apply U4; exact Z1; exact rfl; simp only [pM, pN, rR, rP]) | (refine J3 rfl rfl ?_ ?_; exact Z2) | (refine J4 rfl rfl ?_ ?_; exact Z2; simp only [pM, pN, rR, rP]) | (apply U3; exact rfl; exact rfl; exact Z1; refine ⟨fun hh => ?_, fun hh => ?_⟩ <;> try simp only [Bool.not_true, Bool.not_false, pM, pN] at hh ⊢) | (apply U5; exact rfl; exact Z3; simp only [pM, pN, rR, rP]) | (simp only [tP, bP, eP, true_and]) | (refine Y7 ?_; simp only [tR, bR, eR, true_and]) | (refine Y9 ?_; simp only [tX, bS, bO, Nat.reduceBEq, tN, bN]) | (refine Y4 ?_ ?_; exact Z2) | (refine Y5 ?_ ?_; exact Z2) | (apply Y6; exact Z1; refine ⟨fun hh => ?_, fun hh => ?_⟩))
      all_goals simp only [resV_def (X := dX cA) Tryz.func98, Tryz.results98, resultsV, resultV, go_sem, *, Nat.reduceLT, Int.reduceEq, Int.reduceBEq, Int.reduceLE, Int.reduceLT, Nat.reduceAdd, Nat.reduceBEq, Nat.reduceEqDiff, reduceIte, Nat.reduceLeDiff, Nat.reduceMul, Nat.reduceSub, reduceCtorEq, frzRes, dFrz, frzCells, isRet_ret, tupleOf]
  · cases h
end Go.AM
set_option maxRecDepth 100000
namespace Go.AM
open Go Go.Proofs
variable [Keep]
attribute [local irreducible] W WO WO1 WD WQ WT thenQ blockQ endR isRet retK Cl ClR
theorem ints_idx {a : AV} {l : List Int} (h : slV intC a = some l) {k : Nat} {p : Int} (hp : l[k]? = some p) (H : Heap) : indexAddrV Tryz.prog H 39 a (.int .i64 ↑k) = some (.vptr [.int .i64 p]) :=
  (slV_is h).1.idx (x := intC.enc p) Tryz.underlying39 ty_lay3 (by simp [hp]) rfl
theorem K98 {X : Ctx} (hX : X.intr 98 = some (pureFn sp98)) (a : AV) (l : List Pt) (ha : slV ptC a = some l) (h : Heap) : Cl X 98 [a] h (.ret (slN ((flatL l).map intC.enc)) h none) :=
  Cl.intr hX (by simp [pureFn, AV.purL, sl_pur ha, sp98, ha])
theorem view_pur {h : Heap} {a : AV} (hp : a.pur = true) : viewV h a = some a := by
  unfold viewV
  split
  · simp [AV.pur] at hp
  · simp [hp]
theorem K28 {X : Ctx} (hX : X.intr 28 = some (flatFn sp28)) (a : AV) (l : List Pt) (least most far : Int) (ha : slV ptC a = some l) (h : Heap) : Cl X 28 [a, .int .i64 least, .int .i64 most, .int .i64 far] h (.ret (.bool (pointsB l least most far)) h none) :=
  Cl.intr hX (by simp [flatFn, viewVs, view_pur (sl_pur ha), view_pur (a := .int .i64 least) rfl, view_pur (a := .int .i64 most) rfl, view_pur (a := .int .i64 far) rfl, sp28, ha])
def sp53 : List AV → Option AV
  | [a, b] => match slV intC a, slV intC b with
    | some l, some r => some (.bool (decide (l = r)))
    | _, _ => none
  | _ => none
theorem p53 : ∀ args v, sp53 args = some v → v.flat = true := by
  intro args v h
  unfold sp53 at h
  split at h
  · split at h <;> cases h
    rfl
  · cases h
set_option maxHeartbeats 400000 in
theorem F53 : IntrFn Tryz.prog 53 (flatFn sp53) := by
  refine flat_fn (X := dX cA) cA_sound p53 ?_
  intro args v h
  unfold sp53 at h
  split at h
  · rename_i a b
    split at h
    · rename_i l r hl hr
      cases h
      have hlen := sl_len hl
      have hout := sl_out hl
      have hmax := sl_max hl
      have hlen2 := sl_len hr
      have hout2 := sl_out hr
      refine ClR.walk (c := _) rfl Tryz.func53 rfl (by kernel_rfl) rfl isRet_fail ?_
      simp only [entryEnv, Nat.reduceAdd]
      by_cases hlr : l.length = r.length
      · have hne : ((l.length : Int) != (r.length : Int)) = false := by simp [hlr]
        have HL := Lib.hid hlr
        clear hlr
        repeat' (first | refine Y1 ?_ | refine U7 ?_ | refine U8 ?_ | refine U9 ?_ | refine Y2 ?_ | ((first | refine Y3 ?_ | refine Y8 ?_); simp only [tN, bN, eN, true_and]) | (apply U4; exact Z1; exact rfl; simp only [pM, pN, rR, rP]) | (refine J3 rfl rfl ?_ ?_; exact Z2) | (refine J4 rfl rfl ?_ ?_; exact Z2; simp only [pM, pN, rR, rP]) | (apply U3; exact rfl; exact rfl; exact Z1; refine ⟨fun hh => ?_, fun hh => ?_⟩ <;> try simp only [Bool.not_true, Bool.not_false, pM, pN] at hh ⊢) | (apply U5; exact rfl; exact Z3; simp only [pM, pN, rR, rP]) | (simp only [tP, bP, eP, true_and]) | (refine Y7 ?_; simp only [tR, bR, eR, true_and]) | (refine Y9 ?_; simp only [tX, bS, bO, Nat.reduceBEq, tN, bN]) | (refine Y4 ?_ ?_; exact Z2) | (refine Y5 ?_ ?_; exact Z2) | (apply Y6; exact Z1; refine ⟨fun hh => ?_, fun hh => ?_⟩))
        refine W.loopN l.length (fun k F => ∃ e, F = Fr.mk 53 false e .nil emptyHp [] none ∧ l.take k = r.take k ∧ e.get 0 = some a ∧ e.get 1 = some b ∧ e.get 5 = some (.int .i64 ↑k) ∧ k ≤ l.length) ?_ ?_
        · refine ⟨_, rfl, ?_, ?_, ?_, ?_, ?_⟩ <;> simp [go_sem, *]
        clear hne
        rintro k F ⟨e, rfl, ht, h0, h1, h5, hk⟩
        by_cases hlt : k < l.length
        · obtain ⟨p, hp⟩ := get_some hlt
          obtain ⟨q, hq⟩ := get_some (show k < r.length by have := HL.out; omega)
          have hix := ints_idx hl hp
          have hix2 := ints_idx hr hq
          have hd : decide ((k : Int) < (l.length : Int)) = true := by simpa using hlt
          have hw := wrap_succ hlt hmax
          have hfl := take_next hp
          have hfr := take_next hq
          have hnp : p ≠ q → decide (l = r) = false := fun hne => by
            simp only [decide_eq_false_iff_not]
            intro e
            subst e
            rw [hp] at hq
            exact hne (Option.some.inj hq)
          clear hl hr hp hq
          repeat' (first | (apply W.drawQ (id := 6) (l1 := [0, 1, 2, 3, 4, 5, 6, 7, 8]) (l2 := []); kernel_rfl; kernel_rfl; kernel_rfl; exact Z4) | (refine ⟨⟨trivial, trivial⟩, ?_⟩) | (refine ⟨⟨rfl, rfl⟩, ?_⟩) | (refine Z5 rfl rfl ?_) | (refine Z8 rfl rfl ?_) | (refine Z6 ?_) | (refine Z9 ?_; simp only [tN, bN, eN, true_and]) | (apply Z7; exact rfl; exact rfl; exact Z1; simp only [pM, pN]) | refine Y1 ?_ | refine U7 ?_ | refine U8 ?_ | refine U9 ?_ | refine Y2 ?_ | ((first | refine Y3 ?_ | refine Y8 ?_); simp only [tN, bN, eN, true_and]) | (apply U4; exact Z1; exact rfl; simp only [pM, pN, rR, rP]) | (refine J3 rfl rfl ?_ ?_; exact Z2) | (refine J4 rfl rfl ?_ ?_; exact Z2; simp only [pM, pN, rR, rP]) | (apply U3; exact rfl; exact rfl; exact Z1; refine ⟨fun hh => ?_, fun hh => ?_⟩ <;> try simp only [Bool.not_true, Bool.not_false, pM, pN] at hh ⊢) | (apply U5; exact rfl; exact Z3; simp only [pM, pN, rR, rP]) | (simp only [tP, bP, eP, true_and]) | (refine Y7 ?_; simp only [tR, bR, eR, true_and]) | (refine Y9 ?_; simp only [tX, bS, bO, Nat.reduceBEq, tN, bN]) | (refine Y4 ?_ ?_; exact Z2) | (refine Y5 ?_ ?_; exact Z2) | (apply Y6; exact Z1; refine ⟨fun hh => ?_, fun hh => ?_⟩))
          all_goals first
            | (refine ⟨hlt, _, rfl, ?_, ?_, ?_, ?_, by omega⟩
               · have : p = q := by simpa using hh
                 rw [hfl, hfr, ht, this]
               all_goals exact Z2)
            | (simp only [resV_def (X := dX cA) Tryz.func53, Tryz.results53, resultsV, resultV, go_sem, *, Nat.reduceLT, Int.reduceEq, Int.reduceBEq, Int.reduceLE, Int.reduceLT, Nat.reduceAdd, Nat.reduceBEq, Nat.reduceEqDiff, reduceIte, Nat.reduceLeDiff, Nat.reduceMul, Nat.reduceSub, reduceCtorEq, frzRes, dFrz, frzCells, isRet_ret, tupleOf]
               rw [hnp (by simpa using hh)])
        · have hd : decide ((k : Int) < (l.length : Int)) = false := by simpa using hlt
          have hkl : k = l.length := by omega
          subst hkl
          rw [List.take_length, HL.out, List.take_length] at ht
          have HT := Lib.hid ht
          clear ht
          repeat' (first | (refine ⟨⟨trivial, trivial⟩, ?_⟩) | (refine ⟨⟨rfl, rfl⟩, ?_⟩) | (refine Z5 rfl rfl ?_) | (refine Z8 rfl rfl ?_) | (refine Z6 ?_) | (refine Z9 ?_; simp only [tN, bN, eN, true_and]) | (apply Z7; exact rfl; exact rfl; exact Z1; simp only [pM, pN]) | refine Y1 ?_ | refine U7 ?_ | refine U8 ?_ | refine U9 ?_ | refine Y2 ?_ | ((first | refine Y3 ?_ | refine Y8 ?_); simp only [tN, bN, eN, true_and]) | (apply U4; exact Z1; exact rfl; simp only [pM, pN, rR, rP]) | (refine J3 rfl rfl ?_ ?_; exact Z2) | (refine J4 rfl rfl ?_ ?_; exact Z2; simp only [pM, pN, rR, rP]) | (apply U3; exact rfl; exact rfl; exact Z1; refine ⟨fun hh => ?_, fun hh => ?_⟩ <;> try simp only [Bool.not_true, Bool.not_false, pM, pN] at hh ⊢) | (apply U5; exact rfl; exact Z3; simp only [pM, pN, rR, rP]) | (simp only [tP, bP, eP, true_and]) | (refine Y7 ?_; simp only [tR, bR, eR, true_and]) | (refine Y9 ?_; simp only [tX, bS, bO, Nat.reduceBEq, tN, bN]) | (refine Y4 ?_ ?_; exact Z2) | (refine Y5 ?_ ?_; exact Z2) | (apply Y6; exact Z1; refine ⟨fun hh => ?_, fun hh => ?_⟩))
          all_goals simp only [resV_def (X := dX cA) Tryz.func53, Tryz.results53, resultsV, resultV, go_sem, *, Nat.reduceLT, Int.reduceEq, Int.reduceBEq, Int.reduceLE, Int.reduceLT, Nat.reduceAdd, Nat.reduceBEq, Nat.reduceEqDiff, reduceIte, Nat.reduceLeDiff, Nat.reduceMul, Nat.reduceSub, reduceCtorEq, frzRes, dFrz, frzCells, isRet_ret, tupleOf]
          simp [HT.out]
      · have hne : ((l.length : Int) != (r.length : Int)) = true := by
          rw [bne_iff_ne]; omega
        have hnl : decide (l = r) = false := by
          simp only [decide_eq_false_iff_not]; intro e; exact hlr (by rw [e])
        clear hlr
        repeat' (first | (refine ⟨⟨trivial, trivial⟩, ?_⟩) | (refine ⟨⟨rfl, rfl⟩, ?_⟩) | (refine Z5 rfl rfl ?_) | (refine Z8 rfl rfl ?_) | (refine Z6 ?_) | (refine Z9 ?_; simp only [tN, bN, eN, true_and]) | (apply Z7; exact rfl; exact rfl; exact Z1; simp only [pM, pN]) | refine Y1 ?_ | refine U7 ?_ | refine U8 ?_ | refine U9 ?_ | refine Y2 ?_ | ((first | refine Y3 ?_ | refine Y8 ?_); simp only [tN, bN, eN, true_and]) | (apply U4; exact Z1; exact rfl; simp only [pM, pN, rR, rP]) | (refine J3 rfl rfl ?_ ?_; exact Z2) | (refine J4 rfl rfl ?_ ?_; exact Z2; simp only [pM, pN, rR, rP]) | (apply U3; exact rfl; exact rfl; exact Z1; refine ⟨fun hh => ?_, fun hh => ?_⟩ <;> try simp only [Bool.not_true, Bool.not_false, pM, pN] at hh ⊢) | (apply U5; exact rfl; exact Z3; simp only [pM, pN, rR, rP]) | (simp only [tP, bP, eP, true_and]) | (refine Y7 ?_; simp only [tR, bR, eR, true_and]) | (refine Y9 ?_; simp only [tX, bS, bO, Nat.reduceBEq, tN, bN]) | (refine Y4 ?_ ?_; exact Z2) | (refine Y5 ?_ ?_; exact Z2) | (apply Y6; exact Z1; refine ⟨fun hh => ?_, fun hh => ?_⟩))
        all_goals simp only [resV_def (X := dX cA) Tryz.func53, Tryz.results53, resultsV, resultV, go_sem, *, Nat.reduceLT, Int.reduceEq, Int.reduceBEq, Int.reduceLE, Int.reduceLT, Nat.reduceAdd, Nat.reduceBEq, Nat.reduceEqDiff, reduceIte, Nat.reduceLeDiff, Nat.reduceMul, Nat.reduceSub, reduceCtorEq, frzRes, dFrz, frzCells, isRet_ret, tupleOf]
    · cases h
  · cases h
theorem K53 {X : Ctx} (hX : X.intr 53 = some (flatFn sp53)) (a b : AV) (l r : List Int) (ha : slV intC a = some l) (hb : slV intC b = some r) (h : Heap) : Cl X 53 [a, b] h (.ret (.bool (decide (l = r))) h none) :=
  Cl.intr hX (by simp [flatFn, viewVs, view_pur (sl_pur ha), view_pur (sl_pur hb), sp53, ha, hb])
def quarter (p : Pt) : Pt := ⟨w64 (-p.y), p.x⟩
def iter {α : Type} (f : α → α) : Nat → α → α
  | 0, x => x
  | n + 1, x => f (iter f n x)
def turnR (p : Pt) (turn : Int) : Pt := iter quarter (turn.tmod 4).toNat (if turn ≥ 4 then ⟨w64 (-p.x), p.y⟩ else p)
def sp81 : List AV → Option AV
  | [.agg [.int .i64 x, .int .i64 y], .int .i64 turn] => some (ptC.enc (turnR ⟨x, y⟩ turn))
  | _ => none
theorem p81 : ∀ args v, sp81 args = some v → v.pur = true := by
  intro args v h
  unfold sp81 at h
  split at h
  · cases h; rfl
  · cases h
set_option maxHeartbeats 400000 in
theorem F81 : IntrFn Tryz.prog 81 (pureFn sp81) := by
  refine pure_fn (X := dX cA) cA_sound p81 ?_
  intro args v h
  unfold sp81 at h
  split at h
  · cases h
    rename_i x y turn
    refine ClR.walk (c := _) rfl Tryz.func81 rfl (by kernel_rfl) rfl isRet_fail ?_
    simp only [entryEnv, Nat.reduceAdd]
    repeat' (first | refine Y1 ?_ | refine U7 ?_ | refine U8 ?_ | refine U9 ?_ | refine Y2 ?_ | ((first | refine Y3 ?_ | refine Y8 ?_); simp only [tN, bN, eN, true_and]) | (apply U4; exact Z1; exact rfl; simp only [pM, pN, rR, rP]) | (refine J3 rfl rfl ?_ ?_; exact Z2) | (refine J4 rfl rfl ?_ ?_; exact Z2; simp only [pM, pN, rR, rP]) | (apply U3; exact rfl; exact rfl; exact Z1; refine ⟨fun hh => ?_, fun hh => ?_⟩ <;> try simp only [Bool.not_true, Bool.not_false, pM, pN] at hh ⊢) | (apply U5; exact rfl; exact Z3; simp only [pM, pN, rR, rP]) | (simp only [tP, bP, eP, true_and]) | (refine Y7 ?_; simp only [tR, bR, eR, true_and]) | (refine Y9 ?_; simp only [tX, bS, bO, Nat.reduceBEq, tN, bN]) | (refine Y4 ?_ ?_; exact Z2) | (refine Y5 ?_ ?_; exact Z2) | (apply Y6; exact Z1; refine ⟨fun hh => ?_, fun hh => ?_⟩))
    all_goals
      refine W.loopN (turn.tmod 4).toNat (fun k F => ∃ e lm, F = Fr.mk 81 false e lm emptyHp [] none ∧ lm.get 2 = some (0, [.int .i64 (iter quarter k (if turn ≥ 4 then ⟨w64 (-x), y⟩ else ⟨x, y⟩)).x, .int .i64 (iter quarter k (if turn ≥ 4 then ⟨w64 (-x), y⟩ else ⟨x, y⟩)).y]) ∧ lm.get 4 = some (0, [.int .i64 0, .int .i64 0]) ∧
        e.get 1 = some (.int .i64 turn) ∧ e.get 2 = some (.lptr 2 0 0) ∧ e.get 4 = some (.lptr 4 0 0) ∧ e.get 5 = some (.int .i64 ↑k) ∧ k ≤ (turn.tmod 4).toNat) ?_ ?_
      · refine ⟨_, _, rfl, ?_, ?_, ?_, ?_, ?_, ?_, ?_⟩ <;> first | exact Z2 | (simp only [iter, w64]; (first | rw [if_pos (by simpa using hh)] | rw [if_neg (by simpa using hh)]); simp only [go_sem, *, Nat.reduceLT, Int.reduceEq, Int.reduceBEq, Int.reduceLE, Int.reduceLT, Nat.reduceAdd, Nat.reduceBEq, Nat.reduceEqDiff, reduceIte, Nat.reduceLeDiff, Nat.reduceMul, Nat.reduceSub, reduceCtorEq]) | simp
      rintro k F ⟨e, lm, rfl, hl2, hl4, h1, h2, h4, h5, hk⟩
      clear hh
      generalize hP : iter quarter k (if turn ≥ 4 then (⟨w64 (-x), y⟩ : Pt) else ⟨x, y⟩) = P at hl2
      have HP := Lib.hid hP
      clear hP
      by_cases hlt : k < (turn.tmod 4).toNat
      · have hd : decide ((k : Int) < turn.tmod 4) = true := by simp; omega
        have hw : IntKind.i64.wrap (↑k + 1) = ↑(k + 1) := by
          have := Int.tmod_lt_of_pos turn (show (0 : Int) < 4 by decide)
          rw [wrap_small (by omega) (by omega)]; simp
        repeat' (first | refine Y1 ?_ | refine U7 ?_ | refine U8 ?_ | refine U9 ?_ | refine Y2 ?_ | ((first | refine Y3 ?_ | refine Y8 ?_); simp only [tN, bN, eN, true_and]) | (apply U4; exact Z1; exact rfl; simp only [pM, pN, rR, rP]) | (refine J3 rfl rfl ?_ ?_; exact Z2) | (refine J4 rfl rfl ?_ ?_; exact Z2; simp only [pM, pN, rR, rP]) | (apply U3; exact rfl; exact rfl; exact Z1; refine ⟨fun hh => ?_, fun hh => ?_⟩ <;> try simp only [Bool.not_true, Bool.not_false, pM, pN] at hh ⊢) | (apply U5; exact rfl; exact Z3; simp only [pM, pN, rR, rP]) | (simp only [tP, bP, eP, true_and]) | (refine Y7 ?_; simp only [tR, bR, eR, true_and]) | (refine Y9 ?_; simp only [tX, bS, bO, Nat.reduceBEq, tN, bN]) | (refine Y4 ?_ ?_; exact Z2) | (refine Y5 ?_ ?_; exact Z2) | (apply Y6; exact Z1; refine ⟨fun hh => ?_, fun hh => ?_⟩))
        refine ⟨hlt, _, _, rfl, ?_, ?_, ?_, ?_, ?_, ?_, by omega⟩
        · have hq := HP.out
          simp only [iter]
          rw [hq]
          simp only [quarter, w64, go_sem, *, Nat.reduceLT, Int.reduceEq, Int.reduceBEq, Int.reduceLE, Int.reduceLT, Nat.reduceAdd, Nat.reduceBEq, Nat.reduceEqDiff, reduceIte, Nat.reduceLeDiff, Nat.reduceMul, Nat.reduceSub, reduceCtorEq]
        all_goals exact Z2
      · have hd : decide ((k : Int) < turn.tmod 4) = false := by simp; omega
        repeat' (first | refine Y1 ?_ | refine U7 ?_ | refine U8 ?_ | refine U9 ?_ | refine Y2 ?_ | ((first | refine Y3 ?_ | refine Y8 ?_); simp only [tN, bN, eN, true_and]) | (apply U4; exact Z1; exact rfl; simp only [pM, pN, rR, rP]) | (refine J3 rfl rfl ?_ ?_; exact Z2) | (refine J4 rfl rfl ?_ ?_; exact Z2; simp only [pM, pN, rR, rP]) | (apply U3; exact rfl; exact rfl; exact Z1; refine ⟨fun hh => ?_, fun hh => ?_⟩ <;> try simp only [Bool.not_true, Bool.not_false, pM, pN] at hh ⊢) | (apply U5; exact rfl; exact Z3; simp only [pM, pN, rR, rP]) | (simp only [tP, bP, eP, true_and]) | (refine Y7 ?_; simp only [tR, bR, eR, true_and]) | (refine Y9 ?_; simp only [tX, bS, bO, Nat.reduceBEq, tN, bN]) | (refine Y4 ?_ ?_; exact Z2) | (refine Y5 ?_ ?_; exact Z2) | (apply Y6; exact Z1; refine ⟨fun hh => ?_, fun hh => ?_⟩))
        all_goals simp only [resV_def (X := dX cA) Tryz.func81, Tryz.results81, resultsV, resultV, go_sem, *, Nat.reduceLT, Int.reduceEq, Int.reduceBEq, Int.reduceLE, Int.reduceLT, Nat.reduceAdd, Nat.reduceBEq, Nat.reduceEqDiff, reduceIte, Nat.reduceLeDiff, Nat.reduceMul, Nat.reduceSub, reduceCtorEq, frzRes, dFrz, frzCells, isRet_ret, tupleOf]
        have hkl : k = (turn.tmod 4).toNat := by omega
        have := HP.out
        rw [hkl] at this
        simp only [turnR, this]
        rfl
  · cases h
theorem K81 {X : Ctx} (hX : X.intr 81 = some (pureFn sp81)) (p : Pt) (turn : Int) (h : Heap) : Cl X 81 [.agg [.int .i64 p.x, .int .i64 p.y], .int .i64 turn] h (.ret (.agg [.int .i64 (turnR p turn).x, .int .i64 (turnR p turn).y]) h none) := Cl.intr hX rfl
end Go.AM
set_option maxRecDepth 100000
namespace Go.AM
open Go Go.Proofs
variable [Keep]
attribute [local irreducible] W WO WO1 WD WQ WT thenQ blockQ endR isRet retK Cl ClR
noncomputable def cF : FuncId → Option (List AV → Heap → Option (AV × Heap))
  | 93 => some (pureFn sp93)
  | 97 => some (pureFn sp97)
  | 28 => some (flatFn sp28)
  | 98 => some (pureFn sp98)
  | 53 => some (flatFn sp53)
  | 81 => some (pureFn sp81)
  | 252 => some (pureFn sp252)
  | 253 => some (pureFn sp253)
  | _ => none
theorem cF_sound : Sound (dX cF) := dX_sound (fun f g h => by
  unfold cF at h
  split at h
  · cases h; exact F93
  · cases h; exact F97
  · cases h; exact F28
  · cases h; exact F98
  · cases h; exact F53
  · cases h; exact F81
  · cases h; exact F252
  · cases h; exact F253
  · cases h)
def sp29 : List AV → Option AV
  | [a, b] => match slV ptC a, slV ptC b with
    | some l, some r => if l.length ≤ 32768 ∧ r.length ≤ 32768 then some (.bool (decide (l = r))) else none
    | _, _ => none
  | _ => none
theorem flatL_inj : ∀ {l r : List Pt}, flatL l = flatL r → l = r := by
  intro l
  induction l with
  | nil =>
    intro r h
    cases r with
    | nil => rfl
    | cons q r => simp [flatL] at h
  | cons p l ih =>
    intro r h
    cases r with
    | nil => simp [flatL] at h
    | cons q r =>
      simp only [flatL, List.flatMap_cons, List.cons_append, List.nil_append, List.cons.injEq] at h
      obtain ⟨h1, h2, h3⟩ := h
      rw [ih h3]
      cases p; cases q
      simp only at h1 h2
      rw [h1, h2]
theorem p29 : ∀ args v, sp29 args = some v → v.flat = true := by
  intro args v h
  unfold sp29 at h
  split at h
  · split at h
    · split at h <;> cases h
      rfl
    · cases h
  · cases h
theorem F29 : IntrFn Tryz.prog 29 (flatFn sp29) := by
  refine flat_fn (X := dX cF) cF_sound p29 ?_
  intro args v h
  unfold sp29 at h
  split at h
  · rename_i a b
    split at h
    · rename_i l r hl hr
      split at h
      · cases h
        rename_i hb
        have hout := sl_out hl
        have hout2 := sl_out hr
        have hf1 : slV intC (slN ((flatL l).map intC.enc)) = some (flatL l) := slV_slN (by rw [flatL_len]; unfold maxL; omega)
        have hf2 : slV intC (slN ((flatL r).map intC.enc)) = some (flatL r) := slV_slN (by rw [flatL_len]; unfold maxL; omega)
        have ho1 := sl_out hf1
        have ho2 := sl_out hf2
        have HL := Lib.hid hl
        have HR := Lib.hid hr
        have H1 := Lib.hid hf1
        have H2 := Lib.hid hf2
        clear hl hr hf1 hf2
        refine ClR.walk (c := _) rfl Tryz.func29 rfl (by kernel_rfl) rfl isRet_fail ?_
        simp only [entryEnv, Nat.reduceAdd]
        repeat' (first | refine Y1 ?_ | refine U7 ?_ | refine U8 ?_ | refine U9 ?_ | refine Y2 ?_ | ((first | refine Y3 ?_ | refine Y8 ?_); simp only [tN, bN, eN, true_and]) | (apply U4; exact Z1; exact rfl; simp only [pM, pN, rR, rP]) | (refine J3 rfl rfl ?_ ?_; exact Z2) | (refine J4 rfl rfl ?_ ?_; exact Z2; simp only [pM, pN, rR, rP]) | (apply U3; exact rfl; exact rfl; exact Z1; refine ⟨fun hh => ?_, fun hh => ?_⟩ <;> try simp only [Bool.not_true, Bool.not_false, pM, pN] at hh ⊢) | (apply U6; exact Z1; exact Z1; (focus (simp only [List.nil_append, List.append_nil]; first | exact K98 rfl _ _ (by first | exact HL.out | exact HR.out) _ | exact K53 rfl _ _ _ _ H1.out H2.out _)); simp only [pM, pN, rR, rP]) | (apply U5; exact rfl; exact Z3; simp only [pM, pN, rR, rP]) | (simp only [tP, bP, eP, true_and]) | (refine Y7 ?_; simp only [tR, bR, eR, true_and]) | (refine Y9 ?_; simp only [tX, bS, bO, Nat.reduceBEq, tN, bN]) | (refine Y4 ?_ ?_; exact Z2) | (refine Y5 ?_ ?_; exact Z2) | (apply Y6; exact Z1; refine ⟨fun hh => ?_, fun hh => ?_⟩))
        all_goals simp only [resV_def (X := dX cF) Tryz.func29, Tryz.results29, resultsV, resultV, go_sem, *, Nat.reduceLT, Int.reduceEq, Int.reduceBEq, Int.reduceLE, Int.reduceLT, Nat.reduceAdd, Nat.reduceBEq, Nat.reduceEqDiff, reduceIte, Nat.reduceLeDiff, Nat.reduceMul, Nat.reduceSub, reduceCtorEq, frzRes, dFrz, frzCells, isRet_ret, tupleOf]
        have : (flatL l = flatL r) = (l = r) := propext ⟨flatL_inj, fun e => by rw [e]⟩
        simp only [this]
      · cases h
    · cases h
  · cases h
def sp30 : List AV → Option AV
  | [a, .int .i64 turn] => (slV ptC a).map fun l => slN ((l.map (turnR · turn)).map ptC.enc)
  | _ => none
theorem p30 : ∀ args v, sp30 args = some v → v.pur = true := by
  intro args v h
  unfold sp30 at h
  split at h
  · simp only [Option.map_eq_some_iff] at h; obtain ⟨l, _, rfl⟩ := h; exact slN_pur (enc_pur _ _)
  · cases h
set_option maxHeartbeats 400000 in
theorem F30 : IntrFn Tryz.prog 30 (pureFn sp30) := by
  refine pure_fn (X := dX cF) cF_sound p30 ?_
  intro args v h
  unfold sp30 at h
  split at h
  · rename_i a turn
    simp only [Option.map_eq_some_iff] at h
    obtain ⟨l, hl, rfl⟩ := h
    have hlen := sl_len hl
    have hout := sl_out hl
    have hmax := sl_max hl
    refine ClR.walk (c := _) rfl Tryz.func30 rfl (by kernel_rfl) rfl isRet_fail ?_
    simp only [entryEnv, Nat.reduceAdd]
    repeat' (first | refine Y1 ?_ | refine U7 ?_ | refine U8 ?_ | refine U9 ?_ | refine Y2 ?_ | ((first | refine Y3 ?_ | refine Y8 ?_); simp only [tN, bN, eN, true_and]) | (apply U4; exact Z1; exact rfl; simp only [pM, pN, rR, rP]) | (refine J3 rfl rfl ?_ ?_; exact Z2) | (refine J4 rfl rfl ?_ ?_; exact Z2; simp only [pM, pN, rR, rP]) | (apply U3; exact rfl; exact rfl; exact Z1; refine ⟨fun hh => ?_, fun hh => ?_⟩ <;> try simp only [Bool.not_true, Bool.not_false, pM, pN] at hh ⊢) | (apply U5; exact rfl; exact Z3; simp only [pM, pN, rR, rP]) | (simp only [tP, bP, eP, true_and]) | (refine Y7 ?_; simp only [tR, bR, eR, true_and]) | (refine Y9 ?_; simp only [tX, bS, bO, Nat.reduceBEq, tN, bN]) | (refine Y4 ?_ ?_; exact Z2) | (refine Y5 ?_ ?_; exact Z2) | (apply Y6; exact Z1; refine ⟨fun hh => ?_, fun hh => ?_⟩))
    refine W.loopN l.length (fun k F => ∃ e hp u, F = Fr.mk 30 false e .nil hp [] none ∧ Blt hp u 2 (((l.take k).map (turnR · turn)).map ptC.enc) ∧ e.get 0 = some a ∧ e.get 1 = some (.int .i64 turn) ∧ e.get 5 = some u ∧ e.get 6 = some (.int .i64 ↑k) ∧ k ≤ l.length) ?_ ?_
    · refine ⟨_, _, _, rfl, Blt.nil, ?_, ?_, ?_, ?_, ?_⟩ <;> simp [go_sem, *]
    rintro k F ⟨e, hp0, u, rfl, hB, h0, h1, h5, h6, hk⟩
    have hbo := hB.out
    by_cases hlt : k < l.length
    · obtain ⟨p, hp⟩ := get_some hlt
      have hix := pts_idx hl hp
      have hd : decide ((k : Int) < (l.length : Int)) = true := by simpa using hlt
      have hw := wrap_succ hlt hmax
      have hnx := take_next hp
      have hll : ((((l.take k).map (turnR · turn)).map ptC.enc)).length + 1 ≤ most := by
        simp only [List.length_map, List.length_take]
        unfold most; unfold maxL at hmax; omega
      clear hl hp
      repeat' (first | (apply WO1.append (t := 22) (u := 22) (e := 38) (e' := 38) (sz := 2) (tl := []); (focus assumption); exact Z1; exact rfl; (focus exact Z2); (focus exact Z2); (focus exact Z2); (focus (exact ty_row22)); exact Z1; (focus (intro v hv; simp at hv; rcases hv with rfl | rfl <;> rfl)); (focus (simp; simp at *; omega)); (focus (simp)); (intro v' h' hB' ho' hK'; simp only [pM, pN])) | refine Y1 ?_ | refine U7 ?_ | refine U8 ?_ | refine U9 ?_ | refine Y2 ?_ | ((first | refine Y3 ?_ | refine Y8 ?_); simp only [tN, bN, eN, true_and]) | (apply U4; exact Z1; exact rfl; simp only [pM, pN, rR, rP]) | (refine J3 rfl rfl ?_ ?_; exact Z2) | (refine J4 rfl rfl ?_ ?_; exact Z2; simp only [pM, pN, rR, rP]) | (apply U3; exact rfl; exact rfl; exact Z1; refine ⟨fun hh => ?_, fun hh => ?_⟩ <;> try simp only [Bool.not_true, Bool.not_false, pM, pN] at hh ⊢) | (apply U6; exact Z1; exact Z1; (focus (simp only [List.nil_append, List.append_nil]; first | exact K81 rfl _ _ _)); simp only [pM, pN, rR, rP]) | (apply U5; exact rfl; exact Z3; simp only [pM, pN, rR, rP]) | (simp only [tP, bP, eP, true_and]) | (refine Y7 ?_; simp only [tR, bR, eR, true_and]) | (refine Y9 ?_; simp only [tX, bS, bO, Nat.reduceBEq, tN, bN]) | (refine Y4 ?_ ?_; exact Z2) | (refine Y5 ?_ ?_; exact Z2) | (apply Y6; exact Z1; refine ⟨fun hh => ?_, fun hh => ?_⟩))
      refine ⟨hlt, _, _, v', rfl, ?_, ?_, ?_, ?_, ?_, by omega⟩
      · rw [hnx]; simpa [ptC] using hB'
      all_goals exact Z2
    · have hd : decide ((k : Int) < (l.length : Int)) = false := by simpa using hlt
      have hkl : k = l.length := by omega
      subst hkl
      rw [List.take_length] at hB
      obtain ⟨h', hz, hz2, hz1⟩ := hB.freeze
      repeat' (first | refine Y1 ?_ | refine U7 ?_ | refine U8 ?_ | refine U9 ?_ | refine Y2 ?_ | ((first | refine Y3 ?_ | refine Y8 ?_); simp only [tN, bN, eN, true_and]) | (apply U4; exact Z1; exact rfl; simp only [pM, pN, rR, rP]) | (refine J3 rfl rfl ?_ ?_; exact Z2) | (refine J4 rfl rfl ?_ ?_; exact Z2; simp only [pM, pN, rR, rP]) | (apply U3; exact rfl; exact rfl; exact Z1; refine ⟨fun hh => ?_, fun hh => ?_⟩ <;> try simp only [Bool.not_true, Bool.not_false, pM, pN] at hh ⊢) | (apply U5; exact rfl; exact Z3; simp only [pM, pN, rR, rP]) | (simp only [tP, bP, eP, true_and]) | (refine Y7 ?_; simp only [tR, bR, eR, true_and]) | (refine Y9 ?_; simp only [tX, bS, bO, Nat.reduceBEq, tN, bN]) | (refine Y4 ?_ ?_; exact Z2) | (refine Y5 ?_ ?_; exact Z2) | (apply Y6; exact Z1; refine ⟨fun hh => ?_, fun hh => ?_⟩))
      all_goals simp only [resV_def (X := dX cF) Tryz.func30, Tryz.results30, resultsV, resultV, go_sem, *, Nat.reduceLT, Int.reduceEq, Int.reduceBEq, Int.reduceLE, Int.reduceLT, Nat.reduceAdd, Nat.reduceBEq, Nat.reduceEqDiff, reduceIte, Nat.reduceLeDiff, Nat.reduceMul, Nat.reduceSub, reduceCtorEq, frzRes, dFrz, frzCells, isRet_ret, tupleOf]
  · cases h
def ofV (n : Int) : AV := if n < 4 then .iface 217 (.int .i64 n) else .iface 215 (.int .i64 (w64 (n - 4)))
def sp96 : List AV → Option AV
  | [.int .i64 n] => some (ofV n)
  | _ => none
theorem p96 : ∀ args v, sp96 args = some v → v.pur = true := by
  intro args v h
  unfold sp96 at h
  split at h
  · cases h; unfold ofV; split <;> rfl
  · cases h
theorem F96 : IntrFn Tryz.prog 96 (pureFn sp96) := by
  refine pure_fn (X := dX cF) cF_sound p96 ?_
  intro args v h
  unfold sp96 at h
  split at h
  · cases h
    rename_i n
    refine ClR.walk (c := _) rfl Tryz.func96 rfl (by kernel_rfl) rfl isRet_fail ?_
    simp only [entryEnv, Nat.reduceAdd]
    repeat' (first | refine Y1 ?_ | refine U7 ?_ | refine U8 ?_ | refine U9 ?_ | refine Y2 ?_ | ((first | refine Y3 ?_ | refine Y8 ?_); simp only [tN, bN, eN, true_and]) | (apply U4; exact Z1; exact rfl; simp only [pM, pN, rR, rP]) | (refine J3 rfl rfl ?_ ?_; exact Z2) | (refine J4 rfl rfl ?_ ?_; exact Z2; simp only [pM, pN, rR, rP]) | (apply U3; exact rfl; exact rfl; exact Z1; refine ⟨fun hh => ?_, fun hh => ?_⟩ <;> try simp only [Bool.not_true, Bool.not_false, pM, pN] at hh ⊢) | (apply U5; exact rfl; exact Z3; simp only [pM, pN, rR, rP]) | (simp only [tP, bP, eP, true_and]) | (refine Y7 ?_; simp only [tR, bR, eR, true_and]) | (refine Y9 ?_; simp only [tX, bS, bO, Nat.reduceBEq, tN, bN]) | (refine Y4 ?_ ?_; exact Z2) | (refine Y5 ?_ ?_; exact Z2) | (apply Y6; exact Z1; refine ⟨fun hh => ?_, fun hh => ?_⟩))
    all_goals simp only [resV_def (X := dX cF) Tryz.func96, Tryz.results96, resultsV, resultV, go_sem, *, Nat.reduceLT, Int.reduceEq, Int.reduceBEq, Int.reduceLE, Int.reduceLT, Nat.reduceAdd, Nat.reduceBEq, Nat.reduceEqDiff, reduceIte, Nat.reduceLeDiff, Nat.reduceMul, Nat.reduceSub, reduceCtorEq, frzRes, dFrz, frzCells, isRet_ret, tupleOf]
    all_goals (unfold ofV w64; first | rw [if_pos (by simpa using hh)] | rw [if_neg (by simpa using hh)])
  · cases h
theorem K96 {X : Ctx} (hX : X.intr 96 = some (pureFn sp96)) (n : Int) (h : Heap) : Cl X 96 [.int .i64 n] h (.ret (ofV n) h none) := Cl.intr hX rfl
def flipX (p : Pt) : Pt := ⟨w64 (-p.x), p.y⟩
def turnedV (t : TypeId) (n : Int) (p : Pt) : Option Pt := if n ≤ 65536 then (if t = 217 then some (iter quarter n.toNat p) else if t = 215 then some (iter quarter n.toNat (flipX p)) else none) else none
def sp95 : List AV → Option AV
  | [.iface t (.int .i64 n), .agg [.int .i64 x, .int .i64 y]] => (turnedV t n ⟨x, y⟩).map ptC.enc
  | _ => none
theorem p95 : ∀ args v, sp95 args = some v → v.pur = true := by
  intro args v h
  unfold sp95 at h
  split at h
  · simp only [Option.map_eq_some_iff] at h; obtain ⟨l, _, rfl⟩ := h; rfl
  · cases h
theorem m217 : methodOf Tryz.prog 217 "nacre/drill.quarters" = some 253 := by kernel_rfl
theorem m215 : methodOf Tryz.prog 215 "nacre/drill.quarters" = some 252 := by kernel_rfl
end Go.AM
set_option maxRecDepth 100000
namespace Go.AM
open Go Go.Proofs
variable [Keep]
attribute [local irreducible] W WO WO1 WD WQ WT thenQ blockQ endR isRet retK Cl ClR
set_option maxHeartbeats 400000 in
theorem F95 : IntrFn Tryz.prog 95 (pureFn sp95) := by
  refine pure_fn (X := dX cF) cF_sound p95 ?_
  intro args v h
  unfold sp95 at h
  split at h
  · rename_i t n x y
    simp only [Option.map_eq_some_iff] at h
    obtain ⟨q, hq, rfl⟩ := h
    unfold turnedV at hq
    split at hq
    · rename_i hn
      have main : ∀ p1 : Pt, q = iter quarter n.toNat p1 → ∀ (F : Fr) (Q : Out → Prop), True := fun _ _ _ _ => trivial
      obtain ⟨t', ht', p1, hq1, hp1⟩ : ∃ t' : TypeId, t = t' ∧ ∃ p1 : Pt, q = iter quarter n.toNat p1 ∧ (t' = 217 ∧ p1 = ⟨x, y⟩ ∨ t' = 215 ∧ p1 = flipX ⟨x, y⟩) := by
        split at hq
        · rename_i e; cases hq; exact ⟨217, e, _, rfl, .inl ⟨rfl, rfl⟩⟩
        · split at hq
          · rename_i e; cases hq; exact ⟨215, e, _, rfl, .inr ⟨rfl, rfl⟩⟩
          · cases hq
      subst ht'
      clear hq main
      have HQ := Lib.hid hq1
      clear hq1
      refine ClR.walk (c := _) rfl Tryz.func95 rfl (by kernel_rfl) rfl isRet_fail ?_
      simp only [entryEnv, Nat.reduceAdd]
      rcases hp1 with ⟨rfl, hp⟩ | ⟨rfl, hp⟩
      all_goals
        have HP := Lib.hid hp
        clear hp
        repeat' (first | (apply WO1.invoke; exact Z1; exact Z1; (focus (first | exact m217 | exact m215)); (focus (first | exact K253 rfl _ _ | exact K252 rfl _ _)); simp only [pM, pN, rR, rP]) | refine Y1 ?_ | refine U7 ?_ | refine U8 ?_ | refine U9 ?_ | refine Y2 ?_ | ((first | refine Y3 ?_ | refine Y8 ?_); simp only [tN, bN, eN, true_and]) | (apply U4; exact Z1; exact rfl; simp only [pM, pN, rR, rP]) | (refine J3 rfl rfl ?_ ?_; exact Z2) | (refine J4 rfl rfl ?_ ?_; exact Z2; simp only [pM, pN, rR, rP]) | (apply U3; exact rfl; exact rfl; exact Z1; refine ⟨fun hh => ?_, fun hh => ?_⟩ <;> try simp only [Bool.not_true, Bool.not_false, pM, pN] at hh ⊢) | (apply U5; exact rfl; exact Z3; simp only [pM, pN, rR, rP]) | (simp only [tP, bP, eP, true_and]) | (refine Y7 ?_; simp only [tR, bR, eR, true_and]) | (refine Y9 ?_; simp only [tX, bS, bO, Nat.reduceBEq, tN, bN]) | (refine Y4 ?_ ?_; exact Z2) | (refine Y5 ?_ ?_; exact Z2) | (apply Y6; exact Z1; refine ⟨fun hh => ?_, fun hh => ?_⟩))
        refine W.loopN n.toNat (fun k F => ∃ e lm, F = Fr.mk 95 false e lm emptyHp [] none ∧ lm.get 3 = some (0, [.int .i64 (iter quarter k p1).x, .int .i64 (iter quarter k p1).y]) ∧ lm.get 4 = some (0, [.int .i64 0, .int .i64 0]) ∧
          e.get 3 = some (.lptr 3 0 0) ∧ e.get 4 = some (.lptr 4 0 0) ∧ e.get 14 = some (.int .i64 n) ∧ e.get 15 = some (.int .i64 ↑k) ∧ k ≤ n.toNat) ?_ ?_
        · refine ⟨_, _, rfl, ?_, ?_, ?_, ?_, ?_, ?_, ?_⟩ <;> first | exact Z2 | (simp [go_sem, *]; done) | (have hp := HP.out; simp only [iter, hp, flipX, w64, go_sem, *, Nat.reduceLT, Int.reduceEq, Int.reduceBEq, Int.reduceLE, Int.reduceLT, Nat.reduceAdd, Nat.reduceBEq, Nat.reduceEqDiff, reduceIte, Nat.reduceLeDiff, Nat.reduceMul, Nat.reduceSub, reduceCtorEq])
        rintro k F ⟨e, lm, rfl, hl3, hl4, h3, h4, h14, h15, hk⟩
        generalize hPP : iter quarter k p1 = P at hl3
        have HPP := Lib.hid hPP
        clear hPP
        by_cases hlt : k < n.toNat
        · have hd : decide ((k : Int) < n) = true := by simp; omega
          have hw : IntKind.i64.wrap (↑k + 1) = ↑(k + 1) := by
            rw [wrap_small (by omega) (by omega)]; simp
          repeat' (first | refine Y1 ?_ | refine U7 ?_ | refine U8 ?_ | refine U9 ?_ | refine Y2 ?_ | ((first | refine Y3 ?_ | refine Y8 ?_); simp only [tN, bN, eN, true_and]) | (apply U4; exact Z1; exact rfl; simp only [pM, pN, rR, rP]) | (refine J3 rfl rfl ?_ ?_; exact Z2) | (refine J4 rfl rfl ?_ ?_; exact Z2; simp only [pM, pN, rR, rP]) | (apply U3; exact rfl; exact rfl; exact Z1; refine ⟨fun hh => ?_, fun hh => ?_⟩ <;> try simp only [Bool.not_true, Bool.not_false, pM, pN] at hh ⊢) | (apply U5; exact rfl; exact Z3; simp only [pM, pN, rR, rP]) | (simp only [tP, bP, eP, true_and]) | (refine Y7 ?_; simp only [tR, bR, eR, true_and]) | (refine Y9 ?_; simp only [tX, bS, bO, Nat.reduceBEq, tN, bN]) | (refine Y4 ?_ ?_; exact Z2) | (refine Y5 ?_ ?_; exact Z2) | (apply Y6; exact Z1; refine ⟨fun hh => ?_, fun hh => ?_⟩))
          refine ⟨hlt, _, _, rfl, ?_, ?_, ?_, ?_, ?_, ?_, by omega⟩
          · have hq := HPP.out
            simp only [iter]
            rw [hq]
            simp only [quarter, w64, go_sem, *, Nat.reduceLT, Int.reduceEq, Int.reduceBEq, Int.reduceLE, Int.reduceLT, Nat.reduceAdd, Nat.reduceBEq, Nat.reduceEqDiff, reduceIte, Nat.reduceLeDiff, Nat.reduceMul, Nat.reduceSub, reduceCtorEq]
          all_goals exact Z2
        · have hd : decide ((k : Int) < n) = false := by simp; omega
          repeat' (first | refine Y1 ?_ | refine U7 ?_ | refine U8 ?_ | refine U9 ?_ | refine Y2 ?_ | ((first | refine Y3 ?_ | refine Y8 ?_); simp only [tN, bN, eN, true_and]) | (apply U4; exact Z1; exact rfl; simp only [pM, pN, rR, rP]) | (refine J3 rfl rfl ?_ ?_; exact Z2) | (refine J4 rfl rfl ?_ ?_; exact Z2; simp only [pM, pN, rR, rP]) | (apply U3; exact rfl; exact rfl; exact Z1; refine ⟨fun hh => ?_, fun hh => ?_⟩ <;> try simp only [Bool.not_true, Bool.not_false, pM, pN] at hh ⊢) | (apply U5; exact rfl; exact Z3; simp only [pM, pN, rR, rP]) | (simp only [tP, bP, eP, true_and]) | (refine Y7 ?_; simp only [tR, bR, eR, true_and]) | (refine Y9 ?_; simp only [tX, bS, bO, Nat.reduceBEq, tN, bN]) | (refine Y4 ?_ ?_; exact Z2) | (refine Y5 ?_ ?_; exact Z2) | (apply Y6; exact Z1; refine ⟨fun hh => ?_, fun hh => ?_⟩))
          all_goals simp only [resV_def (X := dX cF) Tryz.func95, Tryz.results95, resultsV, resultV, go_sem, *, Nat.reduceLT, Int.reduceEq, Int.reduceBEq, Int.reduceLE, Int.reduceLT, Nat.reduceAdd, Nat.reduceBEq, Nat.reduceEqDiff, reduceIte, Nat.reduceLeDiff, Nat.reduceMul, Nat.reduceSub, reduceCtorEq, frzRes, dFrz, frzCells, isRet_ret, tupleOf]
          have hkl : k = n.toNat := by omega
          have := HPP.out
          rw [hkl] at this
          rw [HQ.out, this]
          rfl
    · cases hq
  · cases h
theorem K95 {X : Ctx} (hX : X.intr 95 = some (pureFn sp95)) (t : TypeId) (n : Int) (p q : Pt) (hq : turnedV t n p = some q) (h : Heap) : Cl X 95 [.iface t (.int .i64 n), .agg [.int .i64 p.x, .int .i64 p.y]] h (.ret (.agg [.int .i64 q.x, .int .i64 q.y]) h none) :=
  Cl.intr hX (by simp [pureFn, AV.purL, AV.pur, sp95, hq, ptC])
def sp149 : List AV → Option AV
  | [.agg [.int .i64 x, .int .i64 y], .int .i64 far] => some (.bool (okPt far ⟨x, y⟩))
  | _ => none
theorem p149 : ∀ args v, sp149 args = some v → v.flat = true := by
  intro args v h
  unfold sp149 at h
  split at h
  · cases h; rfl
  · cases h
theorem F149 : IntrFn Tryz.prog 149 (pureFn sp149) := by
  refine pure_fn (X := dX cF) cF_sound (fun a v h => by have := p149 a v h; cases v <;> first | rfl | (simp [AV.flat] at this; done) | (unfold sp149 at h; split at h <;> cases h)) ?_
  intro args v h
  unfold sp149 at h
  split at h
  · cases h
    rename_i x y far
    refine ClR.walk (c := _) rfl Tryz.func149 rfl (by kernel_rfl) rfl isRet_fail ?_
    simp only [entryEnv, Nat.reduceAdd]
    repeat' (first | refine Y1 ?_ | refine U7 ?_ | refine U8 ?_ | refine U9 ?_ | refine Y2 ?_ | ((first | refine Y3 ?_ | refine Y8 ?_); simp only [tN, bN, eN, true_and]) | (apply U4; exact Z1; exact rfl; simp only [pM, pN, rR, rP]) | (refine J3 rfl rfl ?_ ?_; exact Z2) | (refine J4 rfl rfl ?_ ?_; exact Z2; simp only [pM, pN, rR, rP]) | (apply U3; exact rfl; exact rfl; exact Z1; refine ⟨fun hh => ?_, fun hh => ?_⟩ <;> try simp only [Bool.not_true, Bool.not_false, pM, pN] at hh ⊢) | (apply U6; exact Z1; exact Z1; (focus (simp only [List.nil_append, List.append_nil]; first | exact K93 rfl _ _ _ _)); simp only [pM, pN, rR, rP]) | (apply U5; exact rfl; exact Z3; simp only [pM, pN, rR, rP]) | (simp only [tP, bP, eP, true_and]) | (refine Y7 ?_; simp only [tR, bR, eR, true_and]) | (refine Y9 ?_; simp only [tX, bS, bO, Nat.reduceBEq, tN, bN]) | (refine Y4 ?_ ?_; exact Z2) | (refine Y5 ?_ ?_; exact Z2) | (apply Y6; exact Z1; refine ⟨fun hh => ?_, fun hh => ?_⟩))
    all_goals simp only [resV_def (X := dX cF) Tryz.func149, Tryz.results149, resultsV, resultV, go_sem, *, Nat.reduceLT, Int.reduceEq, Int.reduceBEq, Int.reduceLE, Int.reduceLT, Nat.reduceAdd, Nat.reduceBEq, Nat.reduceEqDiff, reduceIte, Nat.reduceLeDiff, Nat.reduceMul, Nat.reduceSub, reduceCtorEq, frzRes, dFrz, frzCells, isRet_ret, tupleOf]
    all_goals simp [okPt, w64, *]
  · cases h
theorem K149 {X : Ctx} (hX : X.intr 149 = some (pureFn sp149)) (p : Pt) (far : Int) (h : Heap) : Cl X 149 [.agg [.int .i64 p.x, .int .i64 p.y], .int .i64 far] h (.ret (.bool (okPt far p)) h none) := Cl.intr hX rfl
def isR (r0 : COut) (r : COut) : Prop := r = r0
theorem ClR.cl {X : Ctx} {f : FuncId} {args : List AV} {h : Heap} {r : COut} (q : ClR X f args h (isR r)) : Cl X f args h r := by
  unfold ClR at q
  obtain ⟨r', h1, h2⟩ := q
  rw [show r' = r from h2] at h1
  exact h1
def idxOf {α : Type} (pb : α → Bool) (l : List α) : Int := match l.findIdx? pb with | some i => i | none => -1
theorem idxOf_at {α : Type} {pb : α → Bool} {l : List α} {k : Nat} {p : α} (h1 : (l.take k).all (fun x => !pb x) = true) (hp : l[k]? = some p) (h2 : pb p = true) : idxOf pb l = k := by
  have hk : k < l.length := by
    rcases Nat.lt_or_ge k l.length with h' | h'
    · exact h'
    · rw [List.getElem?_eq_none h'] at hp; cases hp
  have : l.findIdx? pb = some k := by
    rw [List.findIdx?_eq_some_iff_getElem]
    refine ⟨hk, ?_, fun j hj => ?_⟩
    · rw [List.getElem?_eq_getElem hk] at hp
      rw [Option.some.inj hp]; exact h2
    · have := List.all_eq_true.1 h1 l[j] (by rw [List.mem_take_iff_getElem]; exact ⟨j, by omega, rfl⟩)
      simpa using this
  simp [idxOf, this]
theorem idxOf_none {α : Type} {pb : α → Bool} {l : List α} (h1 : l.all (fun x => !pb x) = true) : idxOf pb l = -1 := by
  have : l.findIdx? pb = none := by
    rw [List.findIdx?_eq_none_iff]
    intro x hx
    have := List.all_eq_true.1 h1 x hx
    simpa using this
  simp [idxOf, this]
theorem idxOf_any {α : Type} (pb : α → Bool) (l : List α) : decide (idxOf pb l ≥ 0) = l.any pb := by
  unfold idxOf
  cases h : l.findIdx? pb with
  | none =>
    rw [List.findIdx?_eq_none_iff] at h
    have : l.any pb = false := by
      rw [List.any_eq_false]
      intro x hx
      simp [h x hx]
    rw [this]
    simp
  | some i =>
    rw [List.findIdx?_eq_some_iff_getElem] at h
    obtain ⟨hi, h1, _⟩ := h
    have : l.any pb = true := List.any_eq_true.2 ⟨l[i], List.getElem_mem hi, h1⟩
    rw [this]
    simp
set_option maxHeartbeats 400000 in
theorem C187 (c : FuncId → Option (List AV → Heap → Option (AV × Heap))) (hc : c 187 = none) (a : AV) (l : List Pt) (ha : slV ptC a = some l) (g : FuncId) (first capt : List AV) (pb : Pt → Bool) (h : Heap)
    (hcall : ∀ p : Pt, p ∈ l → Cl (dX c) g ((first ++ [ptC.enc p]) ++ capt) h (.ret (.bool (pb p)) h none)) : Cl (dX c) 187 [a, .func (.func g) first capt] h (.ret (.int .i64 (idxOf pb l)) h none) := by
  refine ClR.cl ?_
  have hlen := sl_len ha
  have hout := sl_out ha
  have hmax := sl_max ha
  refine ClR.walk (c := _) hc Tryz.func187 rfl (by kernel_rfl) rfl (fun e => by cases e) ?_
  simp only [entryEnv, Nat.reduceAdd]
  repeat' (first | refine Y1 ?_ | refine U7 ?_ | refine U8 ?_ | refine U9 ?_ | refine Y2 ?_ | ((first | refine Y3 ?_ | refine Y8 ?_); simp only [tN, bN, eN, true_and]) | (apply U4; exact Z1; exact rfl; simp only [pM, pN, rR, rP]) | (refine J3 rfl rfl ?_ ?_; exact Z2) | (refine J4 rfl rfl ?_ ?_; exact Z2; simp only [pM, pN, rR, rP]) | (apply U3; exact rfl; exact rfl; exact Z1; refine ⟨fun hh => ?_, fun hh => ?_⟩ <;> try simp only [Bool.not_true, Bool.not_false, pM, pN] at hh ⊢) | (apply U5; exact rfl; exact Z3; simp only [pM, pN, rR, rP]) | (simp only [tP, bP, eP, true_and]) | (refine Y7 ?_; simp only [tR, bR, eR, true_and]) | (refine Y9 ?_; simp only [tX, bS, bO, Nat.reduceBEq, tN, bN]) | (refine Y4 ?_ ?_; exact Z2) | (refine Y5 ?_ ?_; exact Z2) | (apply Y6; exact Z1; refine ⟨fun hh => ?_, fun hh => ?_⟩))
  refine W.loopN l.length (fun k F => ∃ e, F = Fr.mk 187 false e .nil h [] none ∧ (l.take k).all (fun x => !pb x) = true ∧ e.get 0 = some a ∧ e.get 1 = some (.func (.func g) first capt) ∧ e.get 7 = some (.int .i64 ↑l.length) ∧ e.get 8 = some (.int .i64 ↑k) ∧ k ≤ l.length) ?_ ?_
  · refine ⟨_, rfl, ?_, ?_, ?_, ?_, ?_, ?_⟩ <;> simp [go_sem, *]
  rintro k F ⟨e, rfl, hall, h0, h1, h7, h8, hk⟩
  have HA := Lib.hid hall
  clear hall
  by_cases hlt : k < l.length
  · obtain ⟨p, hp⟩ := get_some hlt
    have hix := pts_idx ha hp
    have hcl := hcall p (List.mem_of_getElem? hp)
    have hd : decide ((k : Int) < (l.length : Int)) = true := by simpa using hlt
    have hw := wrap_succ hlt hmax
    have hnx := take_next hp
    have HI : pb p = true → idxOf pb l = k := idxOf_at HA.out hp
    have HH := Lib.hid HI
    clear ha hcall hp HI
    repeat' (first | (apply U6; exact Z1; exact Z1; (focus (exact hcl)); simp only [pM, pN, rR, rP]) | refine Y1 ?_ | refine U7 ?_ | refine U8 ?_ | refine U9 ?_ | refine Y2 ?_ | ((first | refine Y3 ?_ | refine Y8 ?_); simp only [tN, bN, eN, true_and]) | (apply U4; exact Z1; exact rfl; simp only [pM, pN, rR, rP]) | (refine J3 rfl rfl ?_ ?_; exact Z2) | (refine J4 rfl rfl ?_ ?_; exact Z2; simp only [pM, pN, rR, rP]) | (apply U3; exact rfl; exact rfl; exact Z1; refine ⟨fun hh => ?_, fun hh => ?_⟩ <;> try simp only [Bool.not_true, Bool.not_false, pM, pN] at hh ⊢) | (apply U5; exact rfl; exact Z3; simp only [pM, pN, rR, rP]) | (simp only [tP, bP, eP, true_and]) | (refine Y7 ?_; simp only [tR, bR, eR, true_and]) | (refine Y9 ?_; simp only [tX, bS, bO, Nat.reduceBEq, tN, bN]) | (refine Y4 ?_ ?_; exact Z2) | (refine Y5 ?_ ?_; exact Z2) | (apply Y6; exact Z1; refine ⟨fun hh => ?_, fun hh => ?_⟩))
    all_goals first
      | (refine ⟨hlt, _, rfl, ?_, ?_, ?_, ?_, ?_, by omega⟩
         · have := HA.out
           rw [hnx]; simp_all
         all_goals exact Z2)
      | (simp only [resV_def (X := dX c) Tryz.func187, Tryz.results187, resultsV, resultV, go_sem, *, Nat.reduceLT, Int.reduceEq, Int.reduceBEq, Int.reduceLE, Int.reduceLT, Nat.reduceAdd, Nat.reduceBEq, Nat.reduceEqDiff, reduceIte, Nat.reduceLeDiff, Nat.reduceMul, Nat.reduceSub, reduceCtorEq, frzRes, dFrz, frzCells, isRet_ret, tupleOf]
         have := HH.out hh
         simp [isR, frzRes, dX_frz, dFrz, this])
  · have hd : decide ((k : Int) < (l.length : Int)) = false := by simpa using hlt
    have hkl : k = l.length := by omega
    have h2 := HA.out
    rw [hkl, List.take_length] at h2
    have HI := Lib.hid (idxOf_none h2)
    clear ha hcall h2 hkl
    repeat' (first | refine Y1 ?_ | refine U7 ?_ | refine U8 ?_ | refine U9 ?_ | refine Y2 ?_ | ((first | refine Y3 ?_ | refine Y8 ?_); simp only [tN, bN, eN, true_and]) | (apply U4; exact Z1; exact rfl; simp only [pM, pN, rR, rP]) | (refine J3 rfl rfl ?_ ?_; exact Z2) | (refine J4 rfl rfl ?_ ?_; exact Z2; simp only [pM, pN, rR, rP]) | (apply U3; exact rfl; exact rfl; exact Z1; refine ⟨fun hh => ?_, fun hh => ?_⟩ <;> try simp only [Bool.not_true, Bool.not_false, pM, pN] at hh ⊢) | (apply U5; exact rfl; exact Z3; simp only [pM, pN, rR, rP]) | (simp only [tP, bP, eP, true_and]) | (refine Y7 ?_; simp only [tR, bR, eR, true_and]) | (refine Y9 ?_; simp only [tX, bS, bO, Nat.reduceBEq, tN, bN]) | (refine Y4 ?_ ?_; exact Z2) | (refine Y5 ?_ ?_; exact Z2) | (apply Y6; exact Z1; refine ⟨fun hh => ?_, fun hh => ?_⟩))
    all_goals simp only [resV_def (X := dX c) Tryz.func187, Tryz.results187, resultsV, resultV, go_sem, *, Nat.reduceLT, Int.reduceEq, Int.reduceBEq, Int.reduceLE, Int.reduceLT, Nat.reduceAdd, Nat.reduceBEq, Nat.reduceEqDiff, reduceIte, Nat.reduceLeDiff, Nat.reduceMul, Nat.reduceSub, reduceCtorEq, frzRes, dFrz, frzCells, isRet_ret, tupleOf]
    have := HI.out
    simp [isR, frzRes, dX_frz, dFrz, this]
theorem C147 (c : FuncId → Option (List AV → Heap → Option (AV × Heap))) (hc : c 187 = none) (hc2 : c 147 = none) (a : AV) (l : List Pt) (ha : slV ptC a = some l) (g : FuncId) (first capt : List AV) (pb : Pt → Bool) (h : Heap)
    (hcall : ∀ p : Pt, p ∈ l → Cl (dX c) g ((first ++ [ptC.enc p]) ++ capt) h (.ret (.bool (pb p)) h none)) : Cl (dX c) 147 [a, .func (.func g) first capt] h (.ret (.bool (l.any pb)) h none) := by
  refine ClR.cl ?_
  have hcl := C187 c hc a l ha g first capt pb h hcall
  have hout := sl_out ha
  have hb := idxOf_any pb l
  clear ha hcall
  refine ClR.walk (c := _) hc2 Tryz.func147 rfl (by kernel_rfl) rfl (fun e => by cases e) ?_
  simp only [entryEnv, Nat.reduceAdd]
  repeat' (first | (apply U6; exact Z1; exact Z1; (focus (exact hcl)); simp only [pM, pN, rR, rP]) | refine Y1 ?_ | refine U7 ?_ | refine U8 ?_ | refine U9 ?_ | refine Y2 ?_ | ((first | refine Y3 ?_ | refine Y8 ?_); simp only [tN, bN, eN, true_and]) | (apply U4; exact Z1; exact rfl; simp only [pM, pN, rR, rP]) | (refine J3 rfl rfl ?_ ?_; exact Z2) | (refine J4 rfl rfl ?_ ?_; exact Z2; simp only [pM, pN, rR, rP]) | (apply U3; exact rfl; exact rfl; exact Z1; refine ⟨fun hh => ?_, fun hh => ?_⟩ <;> try simp only [Bool.not_true, Bool.not_false, pM, pN] at hh ⊢) | (apply U5; exact rfl; exact Z3; simp only [pM, pN, rR, rP]) | (simp only [tP, bP, eP, true_and]) | (refine Y7 ?_; simp only [tR, bR, eR, true_and]) | (refine Y9 ?_; simp only [tX, bS, bO, Nat.reduceBEq, tN, bN]) | (refine Y4 ?_ ?_; exact Z2) | (refine Y5 ?_ ?_; exact Z2) | (apply Y6; exact Z1; refine ⟨fun hh => ?_, fun hh => ?_⟩))
  all_goals simp only [resV_def (X := dX c) Tryz.func147, Tryz.results147, resultsV, resultV, go_sem, *, Nat.reduceLT, Int.reduceEq, Int.reduceBEq, Int.reduceLE, Int.reduceLT, Nat.reduceAdd, Nat.reduceBEq, Nat.reduceEqDiff, reduceIte, Nat.reduceLeDiff, Nat.reduceMul, Nat.reduceSub, reduceCtorEq, frzRes, dFrz, frzCells, isRet_ret, tupleOf]
  simp [isR, frzRes, dX_frz, dFrz, hb]
end Go.AM
set_option maxRecDepth 100000
namespace Go.AM
open Go Go.Proofs
variable [Keep]
attribute [local irreducible] W WO WO1 WD WQ WT thenQ blockQ endR isRet retK Cl ClR
noncomputable def cH : FuncId → Option (List AV → Heap → Option (AV × Heap))
  | 93 => some (pureFn sp93)
  | 95 => some (pureFn sp95)
  | 96 => some (pureFn sp96)
  | 149 => some (pureFn sp149)
  | _ => none
theorem cH_sound : Sound (dX cH) := dX_sound (fun f g h => by
  unfold cH at h
  split at h
  · cases h; exact F93
  · cases h; exact F95
  · cases h; exact F96
  · cases h; exact F149
  · cases h)
def allB (l : List Pt) (least far : Int) : Bool := inB l.length least 4 && !l.any fun p => !okPt far p
def sp94 : List AV → Option AV
  | [a, .int .i64 least, .int .i64 far] => (slV ptC a).map fun l => .bool (allB l least far)
  | _ => none
theorem p94 : ∀ args v, sp94 args = some v → v.flat = true := by
  intro args v h
  unfold sp94 at h
  split at h
  · simp only [Option.map_eq_some_iff] at h; obtain ⟨l, _, rfl⟩ := h; rfl
  · cases h
theorem C148 (far : Int) (p : Pt) (id : Nat) (hp : Heap) (hg : hp.get id = some (.var [.int .i64 far])) : Cl (dX cH) 148 ([] ++ [ptC.enc p] ++ [.ptr id 0]) hp (.ret (.bool (!okPt far p)) hp none) := by
  refine ClR.cl ?_
  refine ClR.walk (c := _) rfl Tryz.func148 rfl (by kernel_rfl) rfl (fun e => by cases e) ?_
  simp only [List.nil_append, List.cons_append, ptC, entryEnv, Nat.reduceAdd]
  repeat' (first | refine Y1 ?_ | refine U7 ?_ | refine U8 ?_ | refine U9 ?_ | refine Y2 ?_ | ((first | refine Y3 ?_ | refine Y8 ?_); simp only [tN, bN, eN, true_and]) | (apply U4; exact Z1; exact rfl; simp only [pM, pN, rR, rP]) | (refine J3 rfl rfl ?_ ?_; exact Z2) | (refine J4 rfl rfl ?_ ?_; exact Z2; simp only [pM, pN, rR, rP]) | (apply U3; exact rfl; exact rfl; exact Z1; refine ⟨fun hh => ?_, fun hh => ?_⟩ <;> try simp only [Bool.not_true, Bool.not_false, pM, pN] at hh ⊢) | (apply U6; exact Z1; exact Z1; (focus (simp only [List.nil_append, List.append_nil]; first | exact K149 rfl _ _ _)); simp only [pM, pN, rR, rP]) | (apply U5; exact rfl; exact Z3; simp only [pM, pN, rR, rP]) | (simp only [tP, bP, eP, true_and]) | (refine Y7 ?_; simp only [tR, bR, eR, true_and]) | (refine Y9 ?_; simp only [tX, bS, bO, Nat.reduceBEq, tN, bN]) | (refine Y4 ?_ ?_; exact Z2) | (refine Y5 ?_ ?_; exact Z2) | (apply Y6; exact Z1; refine ⟨fun hh => ?_, fun hh => ?_⟩))
  all_goals simp only [resV_def (X := dX cH) Tryz.func148, Tryz.results148, resultsV, resultV, go_sem, *, Nat.reduceLT, Int.reduceEq, Int.reduceBEq, Int.reduceLE, Int.reduceLT, Nat.reduceAdd, Nat.reduceBEq, Nat.reduceEqDiff, reduceIte, Nat.reduceLeDiff, Nat.reduceMul, Nat.reduceSub, reduceCtorEq, frzRes, dFrz, frzCells, isRet_ret, tupleOf]
  simp [isR]
theorem F94 : IntrFn Tryz.prog 94 (flatFn sp94) := by
  refine flat_fn (X := dX cH) cH_sound p94 ?_
  intro args v h
  unfold sp94 at h
  split at h
  · rename_i a least far
    simp only [Option.map_eq_some_iff] at h
    obtain ⟨l, hl, rfl⟩ := h
    have hlen := sl_len hl
    have hout := sl_out hl
    have hcon : ∀ (n : Nat) (m : Mp Blk) (id : Nat), (Heap.mk n m).get id = some (.var [.int .i64 far]) → Cl (dX cH) 147 [a, .func (.func 148) [] [.ptr id 0]] (Heap.mk n m) (.ret (.bool (l.any fun p => !okPt far p)) (Heap.mk n m) none) :=
      fun n m id hg => C147 cH rfl rfl a l hl 148 [] [.ptr id 0] (fun p => !okPt far p) _ (fun p _ => C148 far p id _ hg)
    have HC := Lib.hid hcon
    clear hl hcon
    refine ClR.walk (c := _) rfl Tryz.func94 rfl (by kernel_rfl) rfl isRet_fail ?_
    simp only [entryEnv, Nat.reduceAdd, emptyHp]
    repeat' (first | refine Y1 ?_ | refine U7 ?_ | refine U8 ?_ | refine U9 ?_ | refine Y2 ?_ | ((first | refine Y3 ?_ | refine Y8 ?_); simp only [tN, bN, eN, true_and]) | (apply U4; exact Z1; exact rfl; simp only [pM, pN, rR, rP]) | (refine J3 rfl rfl ?_ ?_; exact Z2) | (refine J4 rfl rfl ?_ ?_; exact Z2; simp only [pM, pN, rR, rP]) | (apply U3; exact rfl; exact rfl; exact Z1; refine ⟨fun hh => ?_, fun hh => ?_⟩ <;> try simp only [Bool.not_true, Bool.not_false, pM, pN] at hh ⊢) | (apply U6; exact Z1; exact Z1; (focus (simp only [List.nil_append, List.append_nil]; first | exact K93 rfl _ _ _ _ | exact HC.out _ _ _ (by simp only [go_sem, *, Nat.reduceLT, Int.reduceEq, Int.reduceBEq, Int.reduceLE, Int.reduceLT, Nat.reduceAdd, Nat.reduceBEq, Nat.reduceEqDiff, reduceIte, Nat.reduceLeDiff, Nat.reduceMul, Nat.reduceSub, reduceCtorEq]))); simp only [pM, pN, rR, rP]) | (apply U5; exact rfl; exact Z3; simp only [pM, pN, rR, rP]) | (simp only [tP, bP, eP, true_and]) | (refine Y7 ?_; simp only [tR, bR, eR, true_and]) | (refine Y9 ?_; simp only [tX, bS, bO, Nat.reduceBEq, tN, bN]) | (refine Y4 ?_ ?_; exact Z2) | (refine Y5 ?_ ?_; exact Z2) | (apply Y6; exact Z1; refine ⟨fun hh => ?_, fun hh => ?_⟩))
    all_goals simp only [resV_def (X := dX cH) Tryz.func94, Tryz.results94, resultsV, resultV, go_sem, *, Nat.reduceLT, Int.reduceEq, Int.reduceBEq, Int.reduceLE, Int.reduceLT, Nat.reduceAdd, Nat.reduceBEq, Nat.reduceEqDiff, reduceIte, Nat.reduceLeDiff, Nat.reduceMul, Nat.reduceSub, reduceCtorEq, frzRes, dFrz, frzCells, isRet_ret, tupleOf]
    all_goals simp [allB, *]
  · cases h
theorem K94 {X : Ctx} (hX : X.intr 94 = some (flatFn sp94)) (a : AV) (l : List Pt) (least far : Int) (ha : slV ptC a = some l) (h : Heap) : Cl X 94 [a, .int .i64 least, .int .i64 far] h (.ret (.bool (allB l least far)) h none) :=
  Cl.intr hX (by simp [flatFn, viewVs, view_pur (sl_pur ha), view_pur (a := .int .i64 least) rfl, view_pur (a := .int .i64 far) rfl, sp94, ha])
end Go.AM
