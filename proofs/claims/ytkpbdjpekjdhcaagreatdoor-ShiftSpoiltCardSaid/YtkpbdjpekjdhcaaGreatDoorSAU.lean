/-
  A part of the proof: contracts of functions.
-/
import Derived.Test.YtkpbdjpekjdhcaaGreatDoorSAT
set_option linter.unusedSectionVars false
set_option linter.unusedVariables false
set_option linter.unusedSimpArgs false
set_option maxRecDepth 100000
namespace Go.AM
open Go Go.Proofs
variable [Keep]
attribute [local irreducible] W WO WO1 WD WQ WT thenQ blockQ endR isRet retK Cl ClR
open Go.TX (Rm Fa Ha Hs textH smallH readP readQ shortH)
attribute [local irreducible] houseB textH readP readQ
noncomputable def c8 : FuncId → Option (List AV → Heap → Option (AV × Heap))
  | 22 => some (pureFn sp22)
  | 24 => some (flatFnD sp82)
  | 40 => some (flatFnD sp40)
  | 41 => some (pureFn sp41)
  | 44 => some (pureFn sp44)
  | 43 => some (flatFnD sp43)
  | _ => none
theorem c8_sound (hT : TabK Tryz.prog) : Sound (dX c8) := dX_sound (fun f g h => by
  unfold c8 at h
  split at h
  · cases h; exact F22 hT
  · cases h; exact F24D
  · cases h; exact F40 hT
  · cases h; exact F41 hT
  · cases h; exact F44
  · cases h; exact F43
  · cases h)
def h0 : Hs := ⟨0, [], [], [], []⟩
theorem K43z {X : Ctx} (hX : X.intr 43 = some (flatFnD sp43)) (h : Heap) : Cl X 43 [.agg [.int .i64 0, .nilslice, .nilslice, .nilslice, .nilslice], .agg [.int .i64 0, .nilslice, .nilslice, .nilslice, .nilslice]] h (.ret (.bool true) h none) :=
  K43 (m := h0) hX (SeeV.of rfl h) (SeeV.of rfl h) (SeeV.of rfl h) (SeeV.of rfl h) (SeeV.of rfl h) (SeeV.of rfl h) (SeeV.of rfl h) (SeeV.of rfl h)
set_option maxHeartbeats 8000000 in
theorem T8 (s : List UInt8) : ClR (dX c8) 8 [.str s] emptyHp (isRet (.bool true)) := by
  have k22 : ∀ h, Cl (dX c8) 22 [] h (.ret (.bool true) h none) := fun h => K22 rfl h
  by_cases hlen : s.length ≤ 600
  · have h600 : decide ((s.length : Int) > 600) = false := by simp only [decide_eq_false_iff_not]; omega
    have k41 := fun h => K41 (X := dX c8) rfl s hlen h
    have k44 := fun h => K44 (X := dX c8) rfl s hlen h
    have k43z := fun h => K43z (X := dX c8) rfl h
    have tt : (true && true) = true := rfl
    unfold rdV44 at k44
    rw [← TX.read_one] at k44
    by_cases hlong : 500 < s.length
    · have h500 : decide ((s.length : Int) > 500) = true := by simp only [decide_eq_true_eq]; omega
      rw [rd_long hlong] at k41
      unfold zeroH at k41 k44
      have q0 : ((3 : Int) != 0) = true := rfl
      have q1 : ((3 : Int) == 3) = true := rfl
      cases hr : readP s with
      | none =>
        rw [hr] at k44
        clear hlen hlong hr
        refine ClR.walk (c := _) rfl Tryz.func8 rfl (by kernel_rfl) rfl isRet_fail ?_
        simp only [entryEnv, Nat.reduceAdd, emptyHp]
        repeat' (first | refine goS ?_ | (apply U6; exact Z1; exact Z1; (focus (simp only [List.nil_append, List.append_nil]; first | exact k22 _ | exact k41 _ | exact k44 _ | exact k43z _)); simp only [pM, pN, rR, rP]) | refine go2 (fun hh => ?_) (fun hh => ?_) | fail)
        all_goals simp only [resV_def (X := dX c8) Tryz.func8, Tryz.results8, resultsV, resultV, go_sem, *, Nat.reduceLT, Int.reduceEq, Int.reduceBEq, Int.reduceLE, Int.reduceLT, Nat.reduceAdd, Nat.reduceBEq, Nat.reduceEqDiff, reduceIte, Nat.reduceLeDiff, Nat.reduceMul, Nat.reduceSub, reduceCtorEq, frzRes, dFrz, frzCells, isRet_ret, tupleOf]
      | some m =>
        rw [hr] at k44
        simp only [hsE] at k44
        obtain ⟨f1, y1, y2, y3⟩ := slN_parts rmC m.rooms
        obtain ⟨f2, y4, y5, y6⟩ := slN_parts faC m.fans
        obtain ⟨f3, y7, y8, y9⟩ := slN_parts intC m.op
        obtain ⟨f4, x1, x2, x3⟩ := slN_parts haC m.hands
        unfold intsE at k44
        clear hlen hlong hr f1 f2 f3 f4
        generalize slN (m.rooms.map rmC.enc) = ua at *
        generalize slN (m.fans.map faC.enc) = ub at *
        generalize slN (m.op.map intC.enc) = uc at *
        generalize slN (m.hands.map haC.enc) = ud at *
        refine ClR.walk (c := _) rfl Tryz.func8 rfl (by kernel_rfl) rfl isRet_fail ?_
        simp only [entryEnv, Nat.reduceAdd, emptyHp]
        repeat' (first | refine goS ?_ | (apply U6; exact Z1; exact Z1; (focus (simp only [List.nil_append, List.append_nil]; first | exact k22 _ | exact k41 _ | exact k44 _ | exact k43z _)); simp only [pM, pN, rR, rP]) | refine go2 (fun hh => ?_) (fun hh => ?_) | fail)
        all_goals simp only [resV_def (X := dX c8) Tryz.func8, Tryz.results8, resultsV, resultV, go_sem, *, Nat.reduceLT, Int.reduceEq, Int.reduceBEq, Int.reduceLE, Int.reduceLT, Nat.reduceAdd, Nat.reduceBEq, Nat.reduceEqDiff, reduceIte, Nat.reduceLeDiff, Nat.reduceMul, Nat.reduceSub, reduceCtorEq, frzRes, dFrz, frzCells, isRet_ret, tupleOf]
    · have h500 : decide ((s.length : Int) > 500) = false := by simp only [decide_eq_false_iff_not]; omega
      cases hr : readP s with
      | none =>
        rw [hr] at k44
        rw [rd_none hlong hr] at k41
        unfold zeroH at k41 k44
        have q0 : ((4 : Int) != 0) = true := rfl
        have q1 : ((4 : Int) == 4) = true := rfl
        clear hlen hlong hr
        refine ClR.walk (c := _) rfl Tryz.func8 rfl (by kernel_rfl) rfl isRet_fail ?_
        simp only [entryEnv, Nat.reduceAdd, emptyHp]
        repeat' (first | refine goS ?_ | (apply U6; exact Z1; exact Z1; (focus (simp only [List.nil_append, List.append_nil]; first | exact k22 _ | exact k41 _ | exact k44 _ | exact k43z _)); simp only [pM, pN, rR, rP]) | refine go2 (fun hh => ?_) (fun hh => ?_) | fail)
        all_goals simp only [resV_def (X := dX c8) Tryz.func8, Tryz.results8, resultsV, resultV, go_sem, *, Nat.reduceLT, Int.reduceEq, Int.reduceBEq, Int.reduceLE, Int.reduceLT, Nat.reduceAdd, Nat.reduceBEq, Nat.reduceEqDiff, reduceIte, Nat.reduceLeDiff, Nat.reduceMul, Nat.reduceSub, reduceCtorEq, frzRes, dFrz, frzCells, isRet_ret, tupleOf]
      | some m =>
        rw [hr] at k44
        simp only [hsE] at k44
        obtain ⟨m1, m2, m3, m4⟩ := read_lens hr (by omega)
        have htx : textH m = s := (TX.readP_is hr).1
        obtain ⟨f1, y1, y2, y3⟩ := slN_parts rmC m.rooms
        obtain ⟨f2, y4, y5, y6⟩ := slN_parts faC m.fans
        obtain ⟨f3, y7, y8, y9⟩ := slN_parts intC m.op
        obtain ⟨f4, x1, x2, x3⟩ := slN_parts haC m.hands
        have hsee := fun h => ho_see h (m := m) (by unfold maxL; omega)
        have k24 := fun h => K24 (X := dX c8) rfl (hsee h).1 (hsee h).2.1 (hsee h).2.2.1 (hsee h).2.2.2
        have k40 := fun h => K40 (X := dX c8) rfl (hsee h).1 (hsee h).2.1 (hsee h).2.2.1 (hsee h).2.2.2
        have k43 := fun h => K43 (X := dX c8) rfl (hsee h).1 (hsee h).2.1 (hsee h).2.2.1 (hsee h).2.2.2 (hsee h).1 (hsee h).2.1 (hsee h).2.2.1 (hsee h).2.2.2
        unfold intsE at k44 k24 k40 k43
        cases hb : houseB m with
        | false =>
          have hrd : rdV41 s = .tuple [zeroH, .int .i64 2] := by unfold rdV41; rw [if_neg hlong, hr]; simp only [hb, Bool.false_eq_true, if_false]
          rw [hrd] at k41
          rw [hb] at k24
          unfold zeroH at k41
          have q0 : ((2 : Int) != 0) = true := rfl
          have q1 : ((2 : Int) == 2) = true := rfl
          clear hlen hlong hr hsee k40 k43 htx hb hrd m1 m2 m3 m4 f1 f2 f3 f4
          generalize slN (m.rooms.map rmC.enc) = ua at *
          generalize slN (m.fans.map faC.enc) = ub at *
          generalize slN (m.op.map intC.enc) = uc at *
          generalize slN (m.hands.map haC.enc) = ud at *
          refine ClR.walk (c := _) rfl Tryz.func8 rfl (by kernel_rfl) rfl isRet_fail ?_
          simp only [entryEnv, Nat.reduceAdd, emptyHp]
          repeat' (first | refine goS ?_ | (apply U6; exact Z1; exact Z1; (focus (simp only [List.nil_append, List.append_nil]; first | exact k22 _ | exact k24 _ | exact k41 _ | exact k44 _ | exact k43z _)); simp only [pM, pN, rR, rP]) | refine go2 (fun hh => ?_) (fun hh => ?_) | fail)
          all_goals simp only [resV_def (X := dX c8) Tryz.func8, Tryz.results8, resultsV, resultV, go_sem, *, Nat.reduceLT, Int.reduceEq, Int.reduceBEq, Int.reduceLE, Int.reduceLT, Nat.reduceAdd, Nat.reduceBEq, Nat.reduceEqDiff, reduceIte, Nat.reduceLeDiff, Nat.reduceMul, Nat.reduceSub, reduceCtorEq, frzRes, dFrz, frzCells, isRet_ret, tupleOf]
        | true =>
          have hrd : rdV41 s = .tuple [hsE m, .int .i64 0] := by unfold rdV41; rw [if_neg hlong, hr]; simp only [hb, if_true]
          rw [hrd] at k41
          unfold hsE intsE at k41
          rw [hb] at k24
          rw [pr_yes hb, htx] at k40
          have q0 : ((0 : Int) != 0) = false := rfl
          have q1 : ((0 : Int) == 0) = true := rfl
          have q2 : (s == s) = true := beq_self_eq_true s
          clear hlen hlong hr hsee k43z htx hb hrd m1 m2 m3 m4 f1 f2 f3 f4
          generalize slN (m.rooms.map rmC.enc) = ua at *
          generalize slN (m.fans.map faC.enc) = ub at *
          generalize slN (m.op.map intC.enc) = uc at *
          generalize slN (m.hands.map haC.enc) = ud at *
          refine ClR.walk (c := _) rfl Tryz.func8 rfl (by kernel_rfl) rfl isRet_fail ?_
          simp only [entryEnv, Nat.reduceAdd, emptyHp]
          repeat' (first | refine goS ?_ | (apply U6; exact Z1; exact Z1; (focus (simp only [List.nil_append, List.append_nil]; first | exact k22 _ | exact k24 _ | exact k40 _ | exact k41 _ | exact k43 _ | exact k44 _)); simp only [pM, pN, rR, rP]) | refine go2 (fun hh => ?_) (fun hh => ?_) | fail)
          all_goals simp only [resV_def (X := dX c8) Tryz.func8, Tryz.results8, resultsV, resultV, go_sem, *, Nat.reduceLT, Int.reduceEq, Int.reduceBEq, Int.reduceLE, Int.reduceLT, Nat.reduceAdd, Nat.reduceBEq, Nat.reduceEqDiff, reduceIte, Nat.reduceLeDiff, Nat.reduceMul, Nat.reduceSub, reduceCtorEq, frzRes, dFrz, frzCells, isRet_ret, tupleOf]
  · have h600 : decide ((s.length : Int) > 600) = true := by simp only [decide_eq_true_eq]; omega
    clear hlen
    refine ClR.walk (c := _) rfl Tryz.func8 rfl (by kernel_rfl) rfl isRet_fail ?_
    simp only [entryEnv, Nat.reduceAdd, emptyHp]
    repeat' (first | refine goS ?_ | (apply U6; exact Z1; exact Z1; (focus (simp only [List.nil_append, List.append_nil]; first | exact k22 _)); simp only [pM, pN, rR, rP]) | refine go2 (fun hh => ?_) (fun hh => ?_) | fail)
    all_goals simp only [resV_def (X := dX c8) Tryz.func8, Tryz.results8, resultsV, resultV, go_sem, *, Nat.reduceLT, Int.reduceEq, Int.reduceBEq, Int.reduceLE, Int.reduceLT, Nat.reduceAdd, Nat.reduceBEq, Nat.reduceEqDiff, reduceIte, Nat.reduceLeDiff, Nat.reduceMul, Nat.reduceSub, reduceCtorEq, frzRes, dFrz, frzCells, isRet_ret, tupleOf]
end Go.AM
