/-
  A part of the proof: contracts of functions.
-/
import Derived.Test.YtkpbdjpekjdhcaaGreatDoorRAZ
set_option linter.unusedSectionVars false
set_option linter.unusedVariables false
set_option linter.unusedSimpArgs false
set_option maxRecDepth 100000
namespace Go.AM
open Go Go.Proofs
variable [Keep]
attribute [local irreducible] W WO WO1 WD WQ WT thenQ blockQ endR isRet retK Cl ClR
open Go.TX (Rm Fa Ha Hs)
attribute [local irreducible] runsB madeR madeF drawnP sumW rowF nowF houseB fitsB
noncomputable def c20 : FuncId → Option (List AV → Heap → Option (AV × Heap))
  | 21 => some (pureFn sp21S)
  | 22 => some (pureFn sp22)
  | 24 => some (flatFnD sp82)
  | 82 => some (flatFnD sp82)
  | 126 => some (pureFn sp126)
  | 106 => some (pureFn sp106)
  | 174 => some (pureFn sp174)
  | 68 => some (pureFn sp68)
  | 78 => some (newQ sp78)
  | 34 => some (flatFnD sp34)
  | 84 => some (pureFn sp84)
  | 85 => some (pureFn sp85)
  | _ => none
theorem c20_sound (hT : TabK Tryz.prog) : Sound (dX c20) := dX_sound (fun f g h => by
  unfold c20 at h
  split at h
  · cases h; exact F21S
  · cases h; exact F22 hT
  · cases h; exact F24D
  · cases h; exact F82D
  · cases h; exact F126
  · cases h; exact F106
  · cases h; exact F174
  · cases h; exact F68
  · cases h; exact F78
  · cases h; exact F34
  · cases h; exact F84
  · cases h; exact F85
  · cases h)
theorem hc20 : CxR c20 := ⟨rfl, rfl, rfl, rfl, rfl, rfl, rfl, rfl⟩
theorem hf20 : CxF c20 := ⟨rfl, rfl, rfl, rfl, rfl, rfl, rfl⟩
set_option maxHeartbeats 8000000 in
theorem T20 (ra fa oa ha dv : AV) (m : Hs) (g : List (List Int)) (x : Fk) (v : HsI m ra fa oa ha) (q : LsI dv g) : ClR (dX c20) 20 [.agg [.int .i64 m.hours, ra, fa, oa, ha], .agg [dv, .int .i64 x.what, .int .i64 x.num, .int .i64 x.hour]] emptyHp (isRet (.bool true)) := by
  have o1 := v.r.out
  have o2 := v.f.out
  have o3 := v.o.out
  have o4 := v.h.out
  have od := q.out
  have k22 : ∀ h, Cl (dX c20) 22 [] h (.ret (.bool true) h none) := fun h => K22 rfl h
  have k21 := fun h => K21I (X := dX c20) rfl v h
  have k51 := fun h => C51 (c := c20) rfl dv g q h
  have q0 : ((0 : Int) == 0) = true := rfl
  have q2 : ((2 : Int) == 2) = true := rfl
  have n0 : ((0 : Int) != 0) = false := rfl
  have n2 : ((2 : Int) != 2) = false := rfl
  have n02 : ((0 : Int) != 2) = true := rfl
  have tt : (true && true) = true := rfl
  have hl0 : lenS .nilslice = some 0 := rfl
  have z0 : (((0 : Nat) : Int) == 0) = true := rfl
  cases gs : shortB m with
  | false =>
    rw [gs] at k21
    clear v q gs
    refine ClR.walk (c := _) rfl Tryz.func20 rfl (by kernel_rfl) rfl isRet_fail ?_
    try simp only [entryEnv, Nat.reduceAdd, List.nil_append, List.cons_append, emptyHp]
    repeat' (first | refine goS ?_ | (apply U6; exact Z1; exact Z1; (focus (simp only [List.nil_append, List.append_nil]; first | exact k21 _ | exact k22 _)); simp only [pM, pN, rR, rP]) | refine go2 (fun hh => ?_) (fun hh => ?_) | fail)
    all_goals simp only [resV_def (X := dX c20) Tryz.func20, Tryz.results20, resultsV, resultV, go_sem, *, Nat.reduceLT, Int.reduceEq, Int.reduceBEq, Int.reduceLE, Int.reduceLT, Nat.reduceAdd, Nat.reduceBEq, Nat.reduceEqDiff, reduceIte, Nat.reduceLeDiff, Nat.reduceMul, Nat.reduceSub, reduceCtorEq, frzRes, dFrz, frzCells, isRet_ret, tupleOf]
    all_goals rfl
  | true =>
    rw [gs] at k21
    cases gz : sizedL g with
    | false =>
      rw [gz] at k51
      clear v q gs gz
      refine ClR.walk (c := _) rfl Tryz.func20 rfl (by kernel_rfl) rfl isRet_fail ?_
      try simp only [entryEnv, Nat.reduceAdd, List.nil_append, List.cons_append, emptyHp]
      repeat' (first | refine goS ?_ | (apply U6; exact Z1; exact Z1; (focus (simp only [List.nil_append, List.append_nil]; first | exact k21 _ | exact k22 _ | exact k51 _)); simp only [pM, pN, rR, rP]) | refine go2 (fun hh => ?_) (fun hh => ?_) | fail)
      all_goals simp only [resV_def (X := dX c20) Tryz.func20, Tryz.results20, resultsV, resultV, go_sem, *, Nat.reduceLT, Int.reduceEq, Int.reduceBEq, Int.reduceLE, Int.reduceLT, Nat.reduceAdd, Nat.reduceBEq, Nat.reduceEqDiff, reduceIte, Nat.reduceLeDiff, Nat.reduceMul, Nat.reduceSub, reduceCtorEq, frzRes, dFrz, frzCells, isRet_ret, tupleOf]
      all_goals rfl
    | true =>
      rw [gz] at k51
      have hA := v.short gs
      have hg := q.sized gz
      have k24 := fun h => K24p (X := dX c20) rfl hA h
      have k76 := fun h => C76 (c := c20) rfl rfl m ra fa oa ha hA h
      have k77 := fun h => C77 hf20 m ra fa oa ha dv g x hA hg h
      have k68 := fun h => K68 (X := dX c20) rfl hA hg x h
      cases hb : houseB m with
      | false =>
        have e1 : fitsV m g x = .tuple [.bool false, .int .i64 2] := by unfold fitsV; rw [hb]; rfl
        have e2 : runV m g x = .tuple [.nilslice, .int .i64 2] := by unfold runV isTruth; rw [hb]; rfl
        rw [hb] at k24 k76
        rw [e1] at k77
        rw [e2] at k68
        simp only [Bool.false_eq_true, if_false] at k76
        clear v q gs gz hA hg hb e1 e2
        refine ClR.walk (c := _) rfl Tryz.func20 rfl (by kernel_rfl) rfl isRet_fail ?_
        try simp only [entryEnv, Nat.reduceAdd, List.nil_append, List.cons_append, emptyHp]
        repeat' (first | refine goS ?_ | (apply U6; exact Z1; exact Z1; (focus (simp only [List.nil_append, List.append_nil]; first | exact k21 _ | exact k22 _ | exact k24 _ | exact k51 _ | exact k76 _ | exact k77 _ | exact k68 _)); simp only [pM, pN, rR, rP]) | refine go2 (fun hh => ?_) (fun hh => ?_) | fail)
        all_goals simp only [resV_def (X := dX c20) Tryz.func20, Tryz.results20, resultsV, resultV, go_sem, *, Nat.reduceLT, Int.reduceEq, Int.reduceBEq, Int.reduceLE, Int.reduceLT, Nat.reduceAdd, Nat.reduceBEq, Nat.reduceEqDiff, reduceIte, Nat.reduceLeDiff, Nat.reduceMul, Nat.reduceSub, reduceCtorEq, frzRes, dFrz, frzCells, isRet_ret, tupleOf]
        all_goals rfl
      | true =>
        have ho := house_ok hb
        have k66 := fun h => C66 (c := c20) hc20 rfl m x ra fa oa ha dv g hA hg h
        rw [hb] at k24 k76
        simp only [if_true] at k76
        cases hs : sizedB m g x with
        | false =>
          have hss := sized_shape ho g x
          rw [hs] at hss
          have e1 : fitsV m g x = .tuple [.bool false, .int .i64 2] := by unfold fitsV; rw [hb, Bool.true_and, ← hss]; rfl
          have e2 : runV m g x = .tuple [.nilslice, .int .i64 2] := by unfold runV isTruth; rw [hb, Bool.true_and, ← hss]; rfl
          rw [hs] at k66
          rw [e1] at k77
          rw [e2] at k68
          clear v q gs gz hA hg hb e1 e2 hs hss ho
          refine ClR.walk (c := _) rfl Tryz.func20 rfl (by kernel_rfl) rfl isRet_fail ?_
          try simp only [entryEnv, Nat.reduceAdd, List.nil_append, List.cons_append, emptyHp]
          repeat' (first | refine goS ?_ | (apply U6; exact Z1; exact Z1; (focus (simp only [List.nil_append, List.append_nil]; first | exact k21 _ | exact k22 _ | exact k24 _ | exact k51 _ | exact k76 _ | exact k77 _ | exact k68 _ | exact k66 _)); simp only [pM, pN, rR, rP]) | refine go2 (fun hh => ?_) (fun hh => ?_) | fail)
          all_goals simp only [resV_def (X := dX c20) Tryz.func20, Tryz.results20, resultsV, resultV, go_sem, *, Nat.reduceLT, Int.reduceEq, Int.reduceBEq, Int.reduceLE, Int.reduceLT, Nat.reduceAdd, Nat.reduceBEq, Nat.reduceEqDiff, reduceIte, Nat.reduceLeDiff, Nat.reduceMul, Nat.reduceSub, reduceCtorEq, frzRes, dFrz, frzCells, isRet_ret, tupleOf]
          all_goals rfl
        | true =>
          have hss := sized_shape ho g x
          rw [hs] at hss
          obtain ⟨s1, s2, s3⟩ := sized_is hs
          obtain ⟨nn, hnn, hnt, hn1, hn4, hol⟩ := ho_parts ho
          have k67 := fun h => C67 (c := c20) hc20 rfl m x ra fa oa ha dv g hA hg nn hnn (by omega) s2 (fun r hr => by have := s1 r hr; omega) h
          have e1 : fitsV m g x = .tuple [.bool (fitsB m g), .int .i64 0] := by unfold fitsV; rw [hb, Bool.true_and, ← hss]; rfl
          rw [hs] at k66
          cases hf : fitsB m g with
          | false =>
            rw [hf] at k67 e1
            have e2 : runV m g x = .tuple [.nilslice, .int .i64 2] := by unfold runV isTruth; rw [hf, Bool.and_false]; rfl
            have nb : (false != false) = false := rfl
            have hbn := bool_ne false false
            rw [e1] at k77
            rw [e2] at k68
            clear v q gs gz hA hg hb e1 e2 hs hss ho s1 s2 s3 hnn hnt hn1 hn4 hol hf
            refine ClR.walk (c := _) rfl Tryz.func20 rfl (by kernel_rfl) rfl isRet_fail ?_
            try simp only [entryEnv, Nat.reduceAdd, List.nil_append, List.cons_append, emptyHp]
            repeat' (first | refine goS ?_ | (apply U6; exact Z1; exact Z1; (focus (simp only [List.nil_append, List.append_nil]; first | exact k21 _ | exact k22 _ | exact k24 _ | exact k51 _ | exact k76 _ | exact k77 _ | exact k68 _ | exact k66 _ | exact k67 _)); simp only [pM, pN, rR, rP]) | refine go2 (fun hh => ?_) (fun hh => ?_) | fail)
            all_goals simp only [resV_def (X := dX c20) Tryz.func20, Tryz.results20, resultsV, resultV, go_sem, *, Nat.reduceLT, Int.reduceEq, Int.reduceBEq, Int.reduceLE, Int.reduceLT, Nat.reduceAdd, Nat.reduceBEq, Nat.reduceEqDiff, reduceIte, Nat.reduceLeDiff, Nat.reduceMul, Nat.reduceSub, reduceCtorEq, frzRes, dFrz, frzCells, isRet_ret, tupleOf]
            all_goals rfl
          | true =>
            rw [hf] at k67 e1
            have hsm : (findF x (failsH m)).isSome = true := by
              have := hss.symm
              simp only [Bool.and_eq_true] at this
              exact this.2
            obtain ⟨f, hff⟩ := Option.isSome_iff_exists.1 hsm
            have e2 : runV m g x = .tuple [slN (rowsE (runL m f g m.hours.toNat m.rooms.length)), .int .i64 0] := by unfold runV isTruth; rw [hf, hb, Bool.true_and, ← hss, hff]; rfl
            have nb : (true != true) = false := rfl
            have hbn := bool_ne true true
            rw [e1] at k77
            rw [e2] at k68
            have k78 := fun h => K78 (X := dX c20) rfl hA hg hb hs hff h
            have hll : (runL m f g m.hours.toNat m.rooms.length).length ≤ maxL := by rw [runL_len]; have := ho.rooms; unfold maxL; omega
            have hli : lisV (slN (rowsE (runL m f g m.hours.toNat m.rooms.length))) = some (runL m f g m.hours.toNat m.rooms.length) := rows_lis hll (fun l hl => by
              obtain ⟨r, rfl⟩ := runL_mem hl
              rw [row_len]; have := ho.hours; unfold maxL; omega)
            have k29 := fun h => C29 (c := c20) rfl rfl _ _ _ hli hli h
            have lr := lis_len hli
            have or := lis_out hli
            clear v q gs gz hA hg hb e1 e2 hs hss ho s1 s2 s3 hnn hnt hn1 hn4 hol hf hsm hff hll hli
            generalize slN (rowsE (runL m f g m.hours.toNat m.rooms.length)) = rv at *
            refine ClR.walk (c := _) rfl Tryz.func20 rfl (by kernel_rfl) rfl isRet_fail ?_
            try simp only [entryEnv, Nat.reduceAdd, List.nil_append, List.cons_append, emptyHp]
            repeat' (first | refine goS ?_ | (apply U6; exact Z1; exact Z1; (focus (simp only [List.nil_append, List.append_nil]; first | exact k21 _ | exact k22 _ | exact k24 _ | exact k51 _ | exact k76 _ | exact k77 _ | exact k68 _ | exact k66 _ | exact k67 _ | exact k78 _ | exact k29 _)); simp only [pM, pN, rR, rP]) | refine go2 (fun hh => ?_) (fun hh => ?_) | fail)
            all_goals simp only [resV_def (X := dX c20) Tryz.func20, Tryz.results20, resultsV, resultV, go_sem, *, Nat.reduceLT, Int.reduceEq, Int.reduceBEq, Int.reduceLE, Int.reduceLT, Nat.reduceAdd, Nat.reduceBEq, Nat.reduceEqDiff, reduceIte, Nat.reduceLeDiff, Nat.reduceMul, Nat.reduceSub, reduceCtorEq, frzRes, dFrz, frzCells, isRet_ret, tupleOf]
            all_goals rfl
end Go.AM
