/-
  A part of the proof: contracts of functions.
-/
import Derived.Test.YtkpbdjpekjdhcaaGreatDoorSAS
set_option linter.unusedSectionVars false
set_option linter.unusedVariables false
set_option linter.unusedSimpArgs false
set_option maxRecDepth 100000
namespace Go.AM
open Go Go.Proofs
variable [Keep]
attribute [local irreducible] W WO WO1 WD WQ WT thenQ blockQ endR isRet retK Cl ClR
open Go.TX (Rm Fa Ha Hs textH smallH readP readQ shortH)
attribute [local irreducible] houseB textH readP readQ
noncomputable def c7 : FuncId → Option (List AV → Heap → Option (AV × Heap))
  | 21 => some (pureFn sp21S)
  | 22 => some (pureFn sp22)
  | 24 => some (flatFnD sp82)
  | 40 => some (flatFnD sp40)
  | 41 => some (pureFn sp41)
  | 42 => some (flatFnD sp110)
  | 43 => some (flatFnD sp43)
  | _ => none
theorem c7_sound (hT : TabK Tryz.prog) : Sound (dX c7) := dX_sound (fun f g h => by
  unfold c7 at h
  split at h
  · cases h; exact F21S
  · cases h; exact F22 hT
  · cases h; exact F24D
  · cases h; exact F40 hT
  · cases h; exact F41 hT
  · cases h; exact F42
  · cases h; exact F43
  · cases h)
theorem ho_short {m : Hs} (h : HOk m) : shortH m := by
  have h1 := h.rooms
  have h2 := h.fans
  have h3 := h.op
  have h4 := h.hours
  have h5 := h.hands
  exact ⟨by omega, by omega, by omega, by omega⟩
theorem hs_len {m : Hs} (h : houseB m = true) : (textH m).length ≤ 500 := TX.text_short (house_ok h).small (ho_short (house_ok h))
theorem hs_rd {m : Hs} (h : houseB m = true) : rdV41 (textH m) = .tuple [hsE m, .int .i64 0] := by
  have h1 := hs_len h
  have h2 := TX.readP_text (house_ok h).small
  unfold rdV41
  rw [if_neg (by omega), h2]
  simp only [h, if_true]
theorem pr_yes {m : Hs} (h : houseB m = true) : prV40 m = .tuple [.str (textH m), .int .i64 0] := by unfold prV40; rw [h]; rfl
theorem pr_no {m : Hs} (h : houseB m = false) : prV40 m = .tuple [.str [], .int .i64 2] := by unfold prV40; rw [h]; rfl
theorem ho_see {m : Hs} (h : Heap) (ho : m.rooms.length ≤ maxL ∧ m.fans.length ≤ maxL ∧ m.op.length ≤ maxL ∧ m.hands.length ≤ maxL) : SeeV h rmC (slN (m.rooms.map rmC.enc)) m.rooms ∧ SeeV h faC (slN (m.fans.map faC.enc)) m.fans ∧ SeeV h intC (slN (intsE m.op)) m.op ∧ SeeV h haC (slN (m.hands.map haC.enc)) m.hands :=
  ⟨SeeV.of (slV_slN ho.1) h, SeeV.of (slV_slN ho.2.1) h, SeeV.of (ints_sl m.op ho.2.2.1) h, SeeV.of (slV_slN ho.2.2.2) h⟩
set_option maxHeartbeats 8000000 in
theorem T7 (ra fa oa ha : AV) (m : Hs) (v1 : isSl ra (m.rooms.map rmC.enc)) (v2 : isSl fa (m.fans.map faC.enc)) (v3 : isSl oa (m.op.map intC.enc)) (v4 : isSl ha (m.hands.map haC.enc)) :
    ClR (dX c7) 7 [.agg [.int .i64 m.hours, ra, fa, oa, ha]] emptyHp (isRet (.bool true)) := by
  have o1 := v1.out
  have o2 := v2.out
  have o3 := v3.out
  have o4 := v4.out
  have k22 : ∀ h, Cl (dX c7) 22 [] h (.ret (.bool true) h none) := fun h => K22 rfl h
  have k21 : ∀ h, Cl (dX c7) 21 [.agg [.int .i64 m.hours, ra, fa, oa, ha]] h (.ret (.bool (shortB m)) h none) := fun h => by
    have h1 := slLen_mk v1
    have h2 := slLen_mk v2
    have h3 := slLen_mk v3
    have h4 := slLen_mk v4
    rw [List.length_map] at h1 h2 h3 h4
    have p1 := v1.pur (enc_pur rmC _)
    have p2 := v2.pur (enc_pur faC _)
    have p3 := v3.pur (enc_pur intC _)
    have p4 := v4.pur (enc_pur haC _)
    exact Cl.intr (g := pureFn sp21S) rfl (by simp [pureFn, AV.pur, AV.purL, p1, p2, p3, p4, sp21S, h1, h2, h3, h4, shortB])
  cases g : shortB m with
  | true =>
    rw [g] at k21
    unfold shortB at g
    simp only [Bool.and_eq_true, decide_eq_true_eq] at g
    obtain ⟨⟨⟨g1, g2⟩, g3⟩, g4⟩ := g
    have w1 := slV_mk v1 (by unfold maxL; omega)
    have w2 := slV_mk v2 (by unfold maxL; omega)
    have w3 := slV_mk v3 (by unfold maxL; omega)
    have w4 := slV_mk v4 (by unfold maxL; omega)
    have k24 := fun h => K24 (X := dX c7) rfl (SeeV.of w1 h) (SeeV.of w2 h) (SeeV.of w3 h) (SeeV.of w4 h)
    have k40 := fun h => K40 (X := dX c7) rfl (SeeV.of w1 h) (SeeV.of w2 h) (SeeV.of w3 h) (SeeV.of w4 h)
    cases hb : houseB m with
    | false =>
      rw [hb] at k24
      rw [pr_no hb] at k40
      have q0 : (([] : List UInt8) == []) = true := rfl
      have q1 : ((2 : Int) == 2) = true := rfl
      have tt : (true && true) = true := rfl
      clear v1 v2 v3 v4 w1 w2 w3 w4 hb
      refine ClR.walk (c := _) rfl Tryz.func7 rfl (by kernel_rfl) rfl isRet_fail ?_
      simp only [entryEnv, Nat.reduceAdd, emptyHp]
      repeat' (first | refine goS ?_ | (apply U6; exact Z1; exact Z1; (focus (simp only [List.nil_append, List.append_nil]; first | exact k21 _ | exact k22 _ | exact k24 _ | exact k40 _)); simp only [pM, pN, rR, rP]) | refine go2 (fun hh => ?_) (fun hh => ?_) | fail)
      all_goals simp only [resV_def (X := dX c7) Tryz.func7, Tryz.results7, resultsV, resultV, go_sem, *, Nat.reduceLT, Int.reduceEq, Int.reduceBEq, Int.reduceLE, Int.reduceLT, Nat.reduceAdd, Nat.reduceBEq, Nat.reduceEqDiff, reduceIte, Nat.reduceLeDiff, Nat.reduceMul, Nat.reduceSub, reduceCtorEq, frzRes, dFrz, frzCells, isRet_ret, tupleOf]
    | true =>
      rw [hb] at k24
      rw [pr_yes hb] at k40
      have k41 := fun h => K41 (X := dX c7) rfl (textH m) (by have := hs_len hb; omega) h
      rw [hs_rd hb] at k41
      have k42 := fun h => K42 (X := dX c7) rfl (SeeV.of w1 h) (SeeV.of w2 h) (SeeV.of w3 h) (SeeV.of w4 h) (house_ok hb).text
      have k43 := fun h => K43 (X := dX c7) rfl (ho_see h (m := m) (by unfold maxL; omega)).1 (ho_see h (m := m) (by unfold maxL; omega)).2.1 (ho_see h (m := m) (by unfold maxL; omega)).2.2.1 (ho_see h (m := m) (by unfold maxL; omega)).2.2.2 (SeeV.of w1 h) (SeeV.of w2 h) (SeeV.of w3 h) (SeeV.of w4 h)
      obtain ⟨f1, y1, y2, y3⟩ := slN_parts rmC m.rooms
      obtain ⟨f2, y4, y5, y6⟩ := slN_parts faC m.fans
      obtain ⟨f3, y7, y8, y9⟩ := slN_parts intC m.op
      obtain ⟨f4, x1, x2, x3⟩ := slN_parts haC m.hands
      have q0 : (textH m == textH m) = true := beq_self_eq_true _
      have q1 : ((0 : Int) == 0) = true := rfl
      have tt : (true && true) = true := rfl
      unfold hsE at k41
      unfold intsE at k41 k43
      clear v1 v2 v3 v4 w1 w2 w3 w4 hb f1 f2 f3 f4
      generalize textH m = tx at *
      generalize slN (m.rooms.map rmC.enc) = ua at *
      generalize slN (m.fans.map faC.enc) = ub at *
      generalize slN (m.op.map intC.enc) = uc at *
      generalize slN (m.hands.map haC.enc) = ud at *
      refine ClR.walk (c := _) rfl Tryz.func7 rfl (by kernel_rfl) rfl isRet_fail ?_
      simp only [entryEnv, Nat.reduceAdd, emptyHp]
      repeat' (first | refine goS ?_ | (apply U6; exact Z1; exact Z1; (focus (simp only [List.nil_append, List.append_nil]; first | exact k21 _ | exact k22 _ | exact k24 _ | exact k40 _ | exact k41 _ | exact k42 _ | exact k43 _)); simp only [pM, pN, rR, rP]) | refine go2 (fun hh => ?_) (fun hh => ?_) | fail)
      all_goals simp only [resV_def (X := dX c7) Tryz.func7, Tryz.results7, resultsV, resultV, go_sem, *, Nat.reduceLT, Int.reduceEq, Int.reduceBEq, Int.reduceLE, Int.reduceLT, Nat.reduceAdd, Nat.reduceBEq, Nat.reduceEqDiff, reduceIte, Nat.reduceLeDiff, Nat.reduceMul, Nat.reduceSub, reduceCtorEq, frzRes, dFrz, frzCells, isRet_ret, tupleOf]
  | false =>
    rw [g] at k21
    clear v1 v2 v3 v4 g
    refine ClR.walk (c := _) rfl Tryz.func7 rfl (by kernel_rfl) rfl isRet_fail ?_
    simp only [entryEnv, Nat.reduceAdd, emptyHp]
    repeat' (first | refine goS ?_ | (apply U6; exact Z1; exact Z1; (focus (simp only [List.nil_append, List.append_nil]; first | exact k21 _ | exact k22 _)); simp only [pM, pN, rR, rP]) | refine go2 (fun hh => ?_) (fun hh => ?_) | fail)
    all_goals simp only [resV_def (X := dX c7) Tryz.func7, Tryz.results7, resultsV, resultV, go_sem, *, Nat.reduceLT, Int.reduceEq, Int.reduceBEq, Int.reduceLE, Int.reduceLT, Nat.reduceAdd, Nat.reduceBEq, Nat.reduceEqDiff, reduceIte, Nat.reduceLeDiff, Nat.reduceMul, Nat.reduceSub, reduceCtorEq, frzRes, dFrz, frzCells, isRet_ret, tupleOf]
end Go.AM
