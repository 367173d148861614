/-
  A part of the proof: contracts of functions.
-/
import Derived.Test.YtkpbdjpekjdhcaaGreatDoorRAU
set_option linter.unusedSectionVars false
set_option linter.unusedVariables false
set_option linter.unusedSimpArgs false
set_option maxRecDepth 100000
namespace Go.AM
open Go Go.Proofs
variable [Keep]
attribute [local irreducible] W WO WO1 WD WQ WT thenQ blockQ endR isRet retK Cl ClR
open Go.TX (Rm Fa Ha Hs)
attribute [local irreducible] failP madeF houseB
noncomputable def c6 : FuncId → Option (List AV → Heap → Option (AV × Heap))
  | 21 => some (pureFn sp21S)
  | 22 => some (pureFn sp22)
  | 24 => some (flatFnD sp82)
  | 35 => some (pureFn sp35)
  | 36 => some (pureFn sp36)
  | 72 => some (pureFn sp72)
  | 84 => some (pureFn sp84)
  | 85 => some (pureFn sp85)
  | _ => none
theorem c6_sound (hT : TabK Tryz.prog) : Sound (dX c6) := dX_sound (fun f g h => by
  unfold c6 at h
  split at h
  · cases h; exact F21S
  · cases h; exact F22 hT
  · cases h; exact F24D
  · cases h; exact F35
  · cases h; exact F36
  · cases h; exact F72
  · cases h; exact F84
  · cases h; exact F85
  · cases h)
theorem hc6 : CxR c6 := ⟨rfl, rfl, rfl, rfl, rfl, rfl, rfl, rfl⟩
set_option maxHeartbeats 8000000 in
theorem T6 (ra fa oa ha : AV) (m : Hs) (x : Fk) (v : HsI m ra fa oa ha) : ClR (dX c6) 6 [.agg [.int .i64 m.hours, ra, fa, oa, ha], fkC.enc x] emptyHp (isRet (.bool true)) := by
  have o1 := v.r.out
  have o2 := v.f.out
  have o3 := v.o.out
  have o4 := v.h.out
  have k22 : ∀ h, Cl (dX c6) 22 [] h (.ret (.bool true) h none) := fun h => K22 rfl h
  have k21 := fun h => K21I (X := dX c6) rfl v h
  have q0 : ((0 : Int) == 0) = true := rfl
  have q2 : ((2 : Int) == 2) = true := rfl
  have n0 : ((0 : Int) != 0) = false := rfl
  have tt : (true && true) = true := rfl
  have hsn := sn_eq
  have hse := sn_ne
  cases g : shortB m with
  | false =>
    rw [g] at k21
    simp only [fkC]
    clear v g
    refine ClR.walk (c := _) rfl Tryz.func6 rfl (by kernel_rfl) rfl isRet_fail ?_
    try simp only [entryEnv, Nat.reduceAdd, List.nil_append, List.cons_append, emptyHp]
    repeat' (first | refine goS ?_ | (apply U6; exact Z1; exact Z1; (focus (simp only [List.nil_append, List.append_nil]; first | exact k21 _ | exact k22 _)); simp only [pM, pN, rR, rP]) | refine go2 (fun hh => ?_) (fun hh => ?_) | fail)
    all_goals simp only [resV_def (X := dX c6) Tryz.func6, Tryz.results6, resultsV, resultV, go_sem, *, Nat.reduceLT, Int.reduceEq, Int.reduceBEq, Int.reduceLE, Int.reduceLT, Nat.reduceAdd, Nat.reduceBEq, Nat.reduceEqDiff, reduceIte, Nat.reduceLeDiff, Nat.reduceMul, Nat.reduceSub, reduceCtorEq, frzRes, dFrz, frzCells, isRet_ret, tupleOf]
    all_goals rfl
  | true =>
    rw [g] at k21
    have hA := v.short g
    have k24 := fun h => K24p (X := dX c6) rfl hA h
    have k35 := fun h => K35 (X := dX c6) rfl hA x h
    have k36 := fun h => K36 (X := dX c6) rfl hA h
    cases hb : houseB m with
    | false =>
      rw [hb] at k24
      have e1 : madeV m x = .tuple [.int .i64 0, .int .i64 2] := by unfold madeV; rw [hb]; rfl
      have e2 : makesV m = .tuple [.agg [.int .i64 0, .int .i64 0], .int .i64 2] := by unfold makesV; rw [hb]; rfl
      rw [e1] at k35
      rw [e2] at k36
      simp only [fkC] at k35 ⊢
      clear v g hA hb e1 e2
      refine ClR.walk (c := _) rfl Tryz.func6 rfl (by kernel_rfl) rfl isRet_fail ?_
      try simp only [entryEnv, Nat.reduceAdd, List.nil_append, List.cons_append, emptyHp]
      repeat' (first | refine goS ?_ | (apply U6; exact Z1; exact Z1; (focus (simp only [List.nil_append, List.append_nil]; first | exact k21 _ | exact k22 _ | exact k24 _ | exact k35 _ | exact k36 _)); simp only [pM, pN, rR, rP]) | refine go2 (fun hh => ?_) (fun hh => ?_) | fail)
      all_goals simp only [resV_def (X := dX c6) Tryz.func6, Tryz.results6, resultsV, resultV, go_sem, *, Nat.reduceLT, Int.reduceEq, Int.reduceBEq, Int.reduceLE, Int.reduceLT, Nat.reduceAdd, Nat.reduceBEq, Nat.reduceEqDiff, reduceIte, Nat.reduceLeDiff, Nat.reduceMul, Nat.reduceSub, reduceCtorEq, frzRes, dFrz, frzCells, isRet_ret, tupleOf]
      all_goals rfl
    | true =>
      rw [hb] at k24
      have ho := house_ok hb
      have e2 : makesV m = .tuple [.agg [.int .i64 (makesP m).1, .int .i64 (makesP m).2], .int .i64 0] := by unfold makesV; rw [hb]; rfl
      rw [e2] at k36
      have k37 := fun h => C37 hc6 rfl rfl m ra fa oa ha hA hb h
      have k38 := fun h => C38 hc6 m x ra fa oa ha hA h
      rw [isFail_find ho] at k38
      cases hf : findF x (failsH m) with
      | none =>
        have e1 : madeV m x = .tuple [.int .i64 0, .int .i64 2] := by unfold madeV; rw [hb, hf]; rfl
        rw [e1] at k35
        rw [hf] at k38
        have e3 : ((makesP m).1 == (makesP m).1 && (makesP m).2 == (makesP m).2) = true := by simp
        simp only [fkC, Option.isSome_none] at k35 k38 ⊢
        clear v g hA hb e1 e2 ho hf
        generalize (makesP m).1 = lo at *
        generalize (makesP m).2 = hi at *
        refine ClR.walk (c := _) rfl Tryz.func6 rfl (by kernel_rfl) rfl isRet_fail ?_
        try simp only [entryEnv, Nat.reduceAdd, List.nil_append, List.cons_append, emptyHp]
        repeat' (first | (apply W.drawQ (id := 7) (l1 := [0, 1, 2, 3, 4, 5, 6, 7]) (l2 := []); kernel_rfl; kernel_rfl; kernel_rfl; exact Z4) | refine go1 ?_ | (apply U6; exact Z1; exact Z1; (focus (simp only [List.nil_append, List.append_nil]; first | exact k21 _ | exact k22 _ | exact k24 _ | exact k35 _ | exact k36 _ | exact k37 _ | exact k38 _)); simp only [pM, pN, rR, rP]) | refine go2 (fun hh => ?_) (fun hh => ?_) | fail)
        all_goals simp only [resV_def (X := dX c6) Tryz.func6, Tryz.results6, resultsV, resultV, go_sem, *, Nat.reduceLT, Int.reduceEq, Int.reduceBEq, Int.reduceLE, Int.reduceLT, Nat.reduceAdd, Nat.reduceBEq, Nat.reduceEqDiff, reduceIte, Nat.reduceLeDiff, Nat.reduceMul, Nat.reduceSub, reduceCtorEq, frzRes, dFrz, frzCells, isRet_ret, tupleOf]
        all_goals rfl
      | some f =>
        have e1 : madeV m x = .tuple [.int .i64 (madeF m f m.hours.toNat m.rooms.length), .int .i64 0] := by unfold madeV; rw [hb, hf]; rfl
        rw [e1] at k35
        rw [hf] at k38
        have e3 : ((makesP m).1 == (makesP m).1 && (makesP m).2 == (makesP m).2) = true := by simp
        obtain ⟨hmem, htell⟩ := find_some hf
        have k39 := fun h => C39 hc6 m f ra fa oa ha hA ho h
        have hin := made_in hmem
        have d1 : decide (madeF m f m.hours.toNat m.rooms.length ≥ (makesP m).1) = true := by simpa using hin.1
        have d2 : decide (madeF m f m.hours.toNat m.rooms.length ≤ (makesP m).2) = true := by simpa using hin.2
        have d3 : (madeF m f m.hours.toNat m.rooms.length == madeF m f m.hours.toNat m.rooms.length) = true := by simp
        have d4 : (x.what != 1) = true ∨ ((x.what != 1) = false ∧ (madeF m f m.hours.toNat m.rooms.length == (makesP m).2) = true) := by
          cases f with
          | no => right; rw [makes_top ho, ← htell]; exact ⟨rfl, by simp⟩
          | fan a b => left; rw [← htell]; rfl
          | mach a b => left; rw [← htell]; rfl
        rw [htell] at k39
        simp only [fkC, Option.isSome_some] at k35 k38 k39 ⊢
        clear v g hA hb e1 e2 ho hf hin hmem htell
        generalize madeF m f m.hours.toNat m.rooms.length = n at *
        generalize (makesP m).1 = lo at *
        generalize (makesP m).2 = hi at *
        rcases d4 with d4 | ⟨d4, d5⟩
        all_goals
          refine ClR.walk (c := _) rfl Tryz.func6 rfl (by kernel_rfl) rfl isRet_fail ?_
          try simp only [entryEnv, Nat.reduceAdd, List.nil_append, List.cons_append, emptyHp]
          repeat' (first | (apply W.drawQ (id := 7) (l1 := [0, 1, 2, 3, 4, 5, 6, 7]) (l2 := []); kernel_rfl; kernel_rfl; kernel_rfl; exact Z4) | refine go1 ?_ | (apply U6; exact Z1; exact Z1; (focus (simp only [List.nil_append, List.append_nil]; first | exact k21 _ | exact k22 _ | exact k24 _ | exact k35 _ | exact k36 _ | exact k37 _ | exact k38 _ | exact k39 _)); simp only [pM, pN, rR, rP]) | refine go2 (fun hh => ?_) (fun hh => ?_) | fail)
          all_goals simp only [resV_def (X := dX c6) Tryz.func6, Tryz.results6, resultsV, resultV, go_sem, *, Nat.reduceLT, Int.reduceEq, Int.reduceBEq, Int.reduceLE, Int.reduceLT, Nat.reduceAdd, Nat.reduceBEq, Nat.reduceEqDiff, reduceIte, Nat.reduceLeDiff, Nat.reduceMul, Nat.reduceSub, reduceCtorEq, frzRes, dFrz, frzCells, isRet_ret, tupleOf]
          all_goals rfl
end Go.AM
