/-
  A part of the proof: contracts of functions.
-/
import Derived.Test.YtkpbdjpekjdhcaaGreatDoorRBB
import Derived.Test.YtkpbdjpekjdhcaaGreatDoorRAU
set_option linter.unusedSectionVars false
set_option linter.unusedVariables false
set_option linter.unusedSimpArgs false
set_option maxRecDepth 100000
namespace Go.AM
open Go Go.Proofs
variable [Keep]
attribute [local irreducible] W WO WO1 WD WQ WT thenQ blockQ endR isRet retK Cl ClR
open Go.TX (Rm Fa Ha Hs)
attribute [local irreducible] houseB pathB airS lowsA highsA failsH
noncomputable def c13 : FuncId → Option (List AV → Heap → Option (AV × Heap))
  | 21 => some (pureFn sp21S)
  | 22 => some (pureFn sp22)
  | 24 => some (flatFnD sp82)
  | 60 => some (pureFn sp60)
  | 61 => some (pureFn sp61)
  | 55 => some (pureFn sp55)
  | 84 => some (pureFn sp84)
  | 85 => some (pureFn sp85)
  | _ => none
theorem c13_sound (hT : TabK Tryz.prog) : Sound (dX c13) := dX_sound (fun f g h => by
  unfold c13 at h
  split at h
  · cases h; exact F21S
  · cases h; exact F22 hT
  · cases h; exact F24D
  · cases h; exact F60
  · cases h; exact F61
  · cases h; exact F55
  · cases h; exact F84
  · cases h; exact F85
  · cases h)
theorem hc13 : CxR c13 := ⟨rfl, rfl, rfl, rfl, rfl, rfl, rfl, rfl⟩
set_option maxHeartbeats 8000000 in
theorem T13 (ra fa oa ha pa : AV) (m : Hs) (p : List Int) (limit : Int) (v : HsI m ra fa oa ha) (q : isSl pa (p.map intC.enc)) : ClR (dX c13) 13 [.agg [.int .i64 m.hours, ra, fa, oa, ha], pa, .int .i64 limit] emptyHp (isRet (.bool true)) := by
  have o1 := v.r.out
  have o2 := v.f.out
  have o3 := v.o.out
  have o4 := v.h.out
  have op := q.out
  have lp := q.len
  rw [List.length_map] at lp
  have k22 : ∀ h, Cl (dX c13) 22 [] h (.ret (.bool true) h none) := fun h => K22 rfl h
  have k21 := fun h => K21I (X := dX c13) rfl v h
  have q0 : ((0 : Int) == 0) = true := rfl
  have q2 : ((2 : Int) == 2) = true := rfl
  have n0 : ((0 : Int) != 0) = false := rfl
  have tt : (true && true) = true := rfl
  have hsn := sn_eq
  have hse := sn_ne
  cases gs : shortB m with
  | false =>
    rw [gs] at k21
    clear v q gs
    refine ClR.walk (c := _) rfl Tryz.func13 rfl (by kernel_rfl) rfl isRet_fail ?_
    try simp only [entryEnv, Nat.reduceAdd, List.nil_append, List.cons_append, emptyHp]
    repeat' (first | refine goS ?_ | (apply U6; exact Z1; exact Z1; (focus (simp only [List.nil_append, List.append_nil]; first | exact k21 _ | exact k22 _)); simp only [pM, pN, rR, rP]) | refine go2 (fun hh => ?_) (fun hh => ?_) | fail)
    all_goals simp only [resV_def (X := dX c13) Tryz.func13, Tryz.results13, resultsV, resultV, go_sem, *, Nat.reduceLT, Int.reduceEq, Int.reduceBEq, Int.reduceLE, Int.reduceLT, Nat.reduceAdd, Nat.reduceBEq, Nat.reduceEqDiff, reduceIte, Nat.reduceLeDiff, Nat.reduceMul, Nat.reduceSub, reduceCtorEq, frzRes, dFrz, frzCells, isRet_ret, tupleOf]
    all_goals rfl
  | true =>
    rw [gs] at k21
    cases gz : decide ((p.length : Int) > 7) with
    | true =>
      clear v q gs
      refine ClR.walk (c := _) rfl Tryz.func13 rfl (by kernel_rfl) rfl isRet_fail ?_
      try simp only [entryEnv, Nat.reduceAdd, List.nil_append, List.cons_append, emptyHp]
      repeat' (first | refine goS ?_ | (apply U6; exact Z1; exact Z1; (focus (simp only [List.nil_append, List.append_nil]; first | exact k21 _ | exact k22 _)); simp only [pM, pN, rR, rP]) | refine go2 (fun hh => ?_) (fun hh => ?_) | fail)
      all_goals simp only [resV_def (X := dX c13) Tryz.func13, Tryz.results13, resultsV, resultV, go_sem, *, Nat.reduceLT, Int.reduceEq, Int.reduceBEq, Int.reduceLE, Int.reduceLT, Nat.reduceAdd, Nat.reduceBEq, Nat.reduceEqDiff, reduceIte, Nat.reduceLeDiff, Nat.reduceMul, Nat.reduceSub, reduceCtorEq, frzRes, dFrz, frzCells, isRet_ret, tupleOf]
      all_goals rfl
    | false =>
      have hA := v.short gs
      have hp : slV intC pa = some p := slV_mk q (by simp only [decide_eq_false_iff_not] at gz; unfold maxL; omega)
      have k24 := fun h => K24p (X := dX c13) rfl hA h
      have k60 := fun h => K60 (X := dX c13) rfl hA hp h
      have k61 := fun h => K61 (X := dX c13) rfl hA limit hp h
      have k62 := fun h => C62 (c := c13) hc13 rfl m ra fa oa ha pa p hA hp h
      have k50 := fun h => C50 (c := c13) hc13 rfl limit h
      cases hb : houseB m with
      | false =>
        have e1 : breV m p = .tuple [.agg [.int .i64 0, .int .i64 0], .int .i64 2] := by unfold breV; rw [hb]; rfl
        have e2 : safeV m p limit = .tuple [.int .i64 0, .int .i64 2] := by unfold safeV; rw [hb]; rfl
        rw [hb] at k24
        rw [e1] at k60
        rw [e2] at k61
        clear v q gs hA hp hb e1 e2
        refine ClR.walk (c := _) rfl Tryz.func13 rfl (by kernel_rfl) rfl isRet_fail ?_
        try simp only [entryEnv, Nat.reduceAdd, List.nil_append, List.cons_append, emptyHp]
        repeat' (first | refine goS ?_ | (apply U6; exact Z1; exact Z1; (focus (simp only [List.nil_append, List.append_nil]; first | exact k21 _ | exact k22 _ | exact k24 _ | exact k60 _ | exact k61 _)); simp only [pM, pN, rR, rP]) | refine go2 (fun hh => ?_) (fun hh => ?_) | fail)
        all_goals simp only [resV_def (X := dX c13) Tryz.func13, Tryz.results13, resultsV, resultV, go_sem, *, Nat.reduceLT, Int.reduceEq, Int.reduceBEq, Int.reduceLE, Int.reduceLT, Nat.reduceAdd, Nat.reduceBEq, Nat.reduceEqDiff, reduceIte, Nat.reduceLeDiff, Nat.reduceMul, Nat.reduceSub, reduceCtorEq, frzRes, dFrz, frzCells, isRet_ret, tupleOf]
        all_goals rfl
      | true =>
        rw [hb] at k24
        cases hq : pathB m p with
        | false =>
          have e1 : breV m p = .tuple [.agg [.int .i64 0, .int .i64 0], .int .i64 2] := by unfold breV; rw [hb, hq]; rfl
          have e2 : safeV m p limit = .tuple [.int .i64 0, .int .i64 2] := by unfold safeV; rw [hb, hq]; rfl
          rw [hq] at k62
          rw [e1] at k60
          rw [e2] at k61
          clear v q gs hA hp hb e1 e2 hq
          refine ClR.walk (c := _) rfl Tryz.func13 rfl (by kernel_rfl) rfl isRet_fail ?_
          try simp only [entryEnv, Nat.reduceAdd, List.nil_append, List.cons_append, emptyHp]
          repeat' (first | refine goS ?_ | (apply U6; exact Z1; exact Z1; (focus (simp only [List.nil_append, List.append_nil]; first | exact k21 _ | exact k22 _ | exact k24 _ | exact k60 _ | exact k61 _ | exact k62 _)); simp only [pM, pN, rR, rP]) | refine go2 (fun hh => ?_) (fun hh => ?_) | fail)
          all_goals simp only [resV_def (X := dX c13) Tryz.func13, Tryz.results13, resultsV, resultV, go_sem, *, Nat.reduceLT, Int.reduceEq, Int.reduceBEq, Int.reduceLE, Int.reduceLT, Nat.reduceAdd, Nat.reduceBEq, Nat.reduceEqDiff, reduceIte, Nat.reduceLeDiff, Nat.reduceMul, Nat.reduceSub, reduceCtorEq, frzRes, dFrz, frzCells, isRet_ret, tupleOf]
          all_goals rfl
        | true =>
          have ho := house_ok hb
          rw [hq] at k62
          have e1 : breV m p = .tuple [.agg [.int .i64 (airS m p).1, .int .i64 (airS m p).2], .int .i64 0] := by unfold breV; rw [hb, hq]; rfl
          rw [e1] at k60
          have k55 := fun h => K55 (X := dX c13) rfl hA hb h
          have k63 := fun h => C63 (c := c13) rfl rfl m ho pa p h (pth_of hp) hq
          have k64 := fun h => C64 (c := c13) rfl rfl rfl m ho pa p limit h (pth_of hp) hq
          have a1 := (slN_is (fksE (failsH m))).out
          have a2 := (slN_is (lowsA m (failsH m))).out
          have a3 := (slN_is (highsA m (failsH m))).out
          have e3 : ((airS m p).1 == (airS m p).1 && (airS m p).2 == (airS m p).2) = true := by simp
          unfold airE at k55 k63 k64
          cases hl : inB limit 0 2000 with
          | false =>
            have e2 : safeV m p limit = .tuple [.int .i64 0, .int .i64 2] := by unfold safeV; rw [hl, Bool.and_false]; rfl
            rw [hl] at k50
            rw [e2] at k61
            clear v q gs hA hp hb e1 e2 hq hl ho
            generalize slN (fksE (failsH m)) = b1 at *
            generalize slN (lowsA m (failsH m)) = b2 at *
            generalize slN (highsA m (failsH m)) = b3 at *
            generalize (airS m p).1 = lo at *
            generalize (airS m p).2 = hi at *
            refine ClR.walk (c := _) rfl Tryz.func13 rfl (by kernel_rfl) rfl isRet_fail ?_
            try simp only [entryEnv, Nat.reduceAdd, List.nil_append, List.cons_append, emptyHp]
            repeat' (first | (apply W.drawQ (id := 8) (l1 := [0, 1, 2, 3, 4, 5, 6, 7, 8]) (l2 := []); kernel_rfl; kernel_rfl; kernel_rfl; exact Z4) | refine go1 ?_ | (apply U6; exact Z1; exact Z1; (focus (simp only [List.nil_append, List.append_nil]; first | exact k21 _ | exact k22 _ | exact k24 _ | exact k60 _ | exact k61 _ | exact k62 _ | exact k55 _ | exact k63 _ | exact k50 _)); simp only [pM, pN, rR, rP]) | refine go2 (fun hh => ?_) (fun hh => ?_) | fail)
            all_goals simp only [resV_def (X := dX c13) Tryz.func13, Tryz.results13, resultsV, resultV, go_sem, *, Nat.reduceLT, Int.reduceEq, Int.reduceBEq, Int.reduceLE, Int.reduceLT, Nat.reduceAdd, Nat.reduceBEq, Nat.reduceEqDiff, reduceIte, Nat.reduceLeDiff, Nat.reduceMul, Nat.reduceSub, reduceCtorEq, frzRes, dFrz, frzCells, isRet_ret, tupleOf]
            all_goals rfl
          | true =>
            have e2 : safeV m p limit = .tuple [.int .i64 (safeW (airS m p) limit), .int .i64 0] := by unfold safeV; rw [hl, hb, hq]; rfl
            rw [hl] at k50
            rw [e2] at k61
            have e4 : (safeW (airS m p) limit == safeW (airS m p) limit) = true := by simp
            clear v q gs hA hp hb e1 e2 hq hl ho
            generalize safeW (airS m p) limit = sw at *
            generalize slN (fksE (failsH m)) = b1 at *
            generalize slN (lowsA m (failsH m)) = b2 at *
            generalize slN (highsA m (failsH m)) = b3 at *
            generalize (airS m p).1 = lo at *
            generalize (airS m p).2 = hi at *
            refine ClR.walk (c := _) rfl Tryz.func13 rfl (by kernel_rfl) rfl isRet_fail ?_
            try simp only [entryEnv, Nat.reduceAdd, List.nil_append, List.cons_append, emptyHp]
            repeat' (first | (apply W.drawQ (id := 8) (l1 := [0, 1, 2, 3, 4, 5, 6, 7, 8]) (l2 := []); kernel_rfl; kernel_rfl; kernel_rfl; exact Z4) | refine go1 ?_ | (apply U6; exact Z1; exact Z1; (focus (simp only [List.nil_append, List.append_nil]; first | exact k21 _ | exact k22 _ | exact k24 _ | exact k60 _ | exact k61 _ | exact k62 _ | exact k55 _ | exact k63 _ | exact k64 _ | exact k50 _)); simp only [pM, pN, rR, rP]) | refine go2 (fun hh => ?_) (fun hh => ?_) | fail)
            all_goals simp only [resV_def (X := dX c13) Tryz.func13, Tryz.results13, resultsV, resultV, go_sem, *, Nat.reduceLT, Int.reduceEq, Int.reduceBEq, Int.reduceLE, Int.reduceLT, Nat.reduceAdd, Nat.reduceBEq, Nat.reduceEqDiff, reduceIte, Nat.reduceLeDiff, Nat.reduceMul, Nat.reduceSub, reduceCtorEq, frzRes, dFrz, frzCells, isRet_ret, tupleOf]
            all_goals rfl
end Go.AM
