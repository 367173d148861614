/-
  DrillGauges: for every measure and every machine the law returns true, and its arguments read behind the call as before. No condition but the row's own: the tables of Go's library that it lists hold what the program's text lays there.
-/
import Derived.Test.YtlhcjccaimmhgaaGreatDoorFnR
import Derived.Test.YtlhcjccaimmhgaaGreatDoorShared
import Derived.Test.YtlhcjccaimmhgaaGreatDoorFnD
import Derived.Test.YtlhcjccaimmhgaaGreatDoorHeadB
import Derived.Test.YtlhcjccaimmhgaaGreatDoorCards
set_option linter.unusedSectionVars false
set_option linter.unusedVariables false
set_option linter.unusedSimpArgs false
set_option maxRecDepth 100000
namespace Go.AM
open Go Go.Proofs
variable [Keep]
attribute [local irreducible] W WO WO1 WD WQ WT thenQ blockQ endR isRet retK Cl ClR
attribute [local irreducible] matchS boundsS machB measB sureW goodB askOk heldI gaugeN sureAt
def sp47 : List AV → Option AV
  | [.agg [ca, .int .i64 off], .agg [sa, .int .i64 cxl, .int .i64 cxh, .int .i64 cyl, .int .i64 cyh, .int .i64 wxl, .int .i64 wxh, .int .i64 wyl, .int .i64 wyh, ra]] => match slV ptC ca, slV ptC sa, slV rdgC ra with
    | some hs, some st, some rs => (match boundsS (ax0 ⟨cxl, cxh⟩ ⟨wxl, wxh⟩ rs []), boundsS (ax1 ⟨cyl, cyh⟩ ⟨wyl, wyh⟩ rs []) with
      | some a, some b => if askOk hs st off (machB st ⟨cxl, cxh⟩ ⟨cyl, cyh⟩ ⟨wxl, wxh⟩ ⟨wyl, wyh⟩ rs) true = true then some (.int .i64 (gaugeN (sureAt (goodB off hs st) a b) : Nat)) else none
      | _, _ => none)
    | _, _, _ => none
  | _ => none
theorem p47 : ∀ args v, sp47 args = some v → v.pur = true := by
  intro args v h
  unfold sp47 at h
  split at h
  · split at h
    · split at h
      · split at h
        · have h := Option.some.inj h
          subst h
          rfl
        · cases h
      · cases h
    · cases h
  · cases h
noncomputable def cGV : FuncId → Option (List AV → Heap → Option (AV × Heap))
  | 45 => some (pureFn sp45)
  | _ => none
theorem cGV_sound : Sound (dX cGV) := dX_sound (fun f g h => by
  unfold cGV at h
  split at h
  · cases h; exact F45
  · cases h)
theorem sure_at (G : Pt → Bool) (a b : List Sp) (n : Nat) : sureAt G a b n = sureW G (a.getD n ⟨0, 0⟩) (b.getD n ⟨0, 0⟩) := by unfold sureAt; rfl
set_option maxHeartbeats 4000000 in
theorem F47 : IntrFn Tryz.prog 47 (pureFn sp47) := by
  refine pure_fn (X := dX cGV) cGV_sound p47 ?_
  intro args v h
  unfold sp47 at h
  split at h
  · rename_i ca off sa cxl cxh cyl cyh wxl wxh wyl wyh ra
    split at h
    · rename_i hs st rs hc hl hr
      split at h
      · rename_i a b hA hB
        split at h
        · rename_i hok
          have h := Option.some.inj h
          subst h
          have o1 := sl_out hc
          have o2 := sl_out hl
          have o3 := sl_out hr
          obtain ⟨one1, t1⟩ := sl_one hc
          obtain ⟨one2, t2⟩ := sl_one hl
          obtain ⟨one3, t3⟩ := sl_one hr
          have k45' : ∀ n : Nat, n < 12 → ∀ h, Cl (dX cGV) 45 [.agg [ca, .int .i64 off], .agg [sa, .int .i64 cxl, .int .i64 cxh, .int .i64 cyl, .int .i64 cyh, .int .i64 wxl, .int .i64 wxh, .int .i64 wyl, .int .i64 wyh, ra], .int .i64 ↑(n + 1)] h (.ret (.int .i64 (sureAt (goodB off hs st) a b (n + 1))) h none) := fun n hn h => Cl.intr (g := pureFn sp45) rfl (by
            have hin : inB ((n + 1 : Nat) : Int) 1 12 = true := by simp only [inB, Bool.and_eq_true, decide_eq_true_eq]; omega
            have htn : ((n + 1 : Nat) : Int).toNat = n + 1 := by omega
            simp only [pureFn, AV.pur, AV.purL, sl_pur hc, sl_pur hl, sl_pur hr, Bool.and_self, if_true, sp45, hc, hl, hr, hA, hB, hin, hok, htn, sure_at])
          have HK := Lib.hid k45'
          generalize hgn : gaugeN (sureAt (goodB off hs st) a b) = gn at *
          have HGN := Lib.hid hgn
          generalize sureAt (goodB off hs st) a b = sat at *
          clear hc hl hr hok hA hB hgn k45'
          refine ClR.walk (c := _) rfl Tryz.func47 rfl (by kernel_rfl) rfl isRet_fail ?_
          simp only [entryEnv, Nat.reduceAdd, emptyHp]
          repeat' (first | refine Y1 ?_ | refine U7 ?_ | refine U8 ?_ | refine U9 ?_ | refine Y2 ?_ | ((first | refine Y3 ?_ | refine Y8 ?_); simp only [tN, bN, eN, true_and]) | (apply U4; exact Z1; exact rfl; simp only [pM, pN, rR, rP]) | (refine J3 rfl rfl ?_ ?_; exact Z2) | (refine J4 rfl rfl ?_ ?_; exact Z2; simp only [pM, pN, rR, rP]) | (apply U3; exact rfl; exact rfl; exact Z1; refine ⟨fun hh => ?_, fun hh => ?_⟩ <;> try simp only [Bool.not_true, Bool.not_false, pM, pN] at hh ⊢) | (apply U5; exact rfl; exact Z3; simp only [pM, pN, rR, rP]) | (simp only [tP, bP, eP, true_and]) | (refine Y7 ?_; simp only [tR, bR, eR, true_and]) | (refine Y9 ?_; simp only [tX, bS, bO, Nat.reduceBEq, tN, bN]) | (refine Y4 ?_ ?_; exact Z2) | (refine Y5 ?_ ?_; exact Z2) | (apply Y6; exact Z1; refine ⟨fun hh => ?_, fun hh => ?_⟩))
          refine W.loopN 12 (fun i F => ∃ e lm, F = Fr.mk 47 false e lm ⟨0, .nil⟩ [] none ∧ (∀ j, j < i → sat (j + 1) = 3) ∧ lm.get 2 = some (0, [ca, .int .i64 off]) ∧ lm.get 3 = some (0, [sa, .int .i64 cxl, .int .i64 cxh, .int .i64 cyl, .int .i64 cyh, .int .i64 wxl, .int .i64 wxh, .int .i64 wyl, .int .i64 wyh, ra]) ∧
            e.get 2 = some (.lptr 2 0 0) ∧ e.get 3 = some (.lptr 3 0 0) ∧ e.get 5 = some (.int .i64 ↑i) ∧ i ≤ 12) ?_ ?_
          · refine ⟨_, _, rfl, fun j hj => absurd hj (by omega), ?_, ?_, ?_, ?_, ?_, Nat.zero_le _⟩ <;> first | exact Z2 | simp [go_sem, *]
          rintro i F ⟨e, lm, rfl, hall, m2, m3, e2, e3, e5, hi⟩
          have HALL := Lib.hid hall
          clear hall
          by_cases hlt : i < 12
          · have hd : decide ((i : Int) < 12) = true := by simp; omega
            have hw := wrap_succ (m := 12) hlt (by unfold maxL; omega)
            have k45 := HK.out i hlt
            generalize hst : sat (i + 1) = w at *
            have HST := Lib.hid hst
            clear hst
            by_cases hw3 : w = 3
            · have b33 : (w == 3) = true := by simp [hw3]
              have HW := Lib.hid hw3
              clear hw3
              repeat' (first | refine Y1 ?_ | refine U7 ?_ | refine U8 ?_ | refine U9 ?_ | refine Y2 ?_ | ((first | refine Y3 ?_ | refine Y8 ?_); simp only [tN, bN, eN, true_and]) | (apply U4; exact Z1; exact rfl; simp only [pM, pN, rR, rP]) | (refine J3 rfl rfl ?_ ?_; exact Z2) | (refine J4 rfl rfl ?_ ?_; exact Z2; simp only [pM, pN, rR, rP]) | (apply U3; exact rfl; exact rfl; exact Z1; refine ⟨fun hh => ?_, fun hh => ?_⟩ <;> try simp only [Bool.not_true, Bool.not_false, pM, pN] at hh ⊢) | (apply U6; exact Z1; exact Z1; (focus (simp only [List.nil_append, List.append_nil]; first | exact k45 _)); simp only [pM, pN, rR, rP]) | (apply U5; exact rfl; exact Z3; simp only [pM, pN, rR, rP]) | (simp only [tP, bP, eP, true_and]) | (refine Y7 ?_; simp only [tR, bR, eR, true_and]) | (refine Y9 ?_; simp only [tX, bS, bO, Nat.reduceBEq, tN, bN]) | (refine Y4 ?_ ?_; exact Z2) | (refine Y5 ?_ ?_; exact Z2) | (apply Y6; exact Z1; refine ⟨fun hh => ?_, fun hh => ?_⟩))
              refine ⟨hlt, _, _, rfl, fun j hj => ?_, ?_, ?_, ?_, ?_, ?_, by omega⟩
              · rcases Nat.lt_or_ge j i with c | c
                · exact HALL.out j c
                · obtain rfl : j = i := by omega
                  rw [HST.out]; exact HW.out
              all_goals exact Z2
            · have b33 : (w == 3) = false := by simp [hw3]
              have HG := Lib.hid (gauge_at HALL.out hlt (by rw [HST.out]; exact hw3))
              clear hw3
              repeat' (first | refine Y1 ?_ | refine U7 ?_ | refine U8 ?_ | refine U9 ?_ | refine Y2 ?_ | ((first | refine Y3 ?_ | refine Y8 ?_); simp only [tN, bN, eN, true_and]) | (apply U4; exact Z1; exact rfl; simp only [pM, pN, rR, rP]) | (refine J3 rfl rfl ?_ ?_; exact Z2) | (refine J4 rfl rfl ?_ ?_; exact Z2; simp only [pM, pN, rR, rP]) | (apply U3; exact rfl; exact rfl; exact Z1; refine ⟨fun hh => ?_, fun hh => ?_⟩ <;> try simp only [Bool.not_true, Bool.not_false, pM, pN] at hh ⊢) | (apply U6; exact Z1; exact Z1; (focus (simp only [List.nil_append, List.append_nil]; first | exact k45 _)); simp only [pM, pN, rR, rP]) | (apply U5; exact rfl; exact Z3; simp only [pM, pN, rR, rP]) | (simp only [tP, bP, eP, true_and]) | (refine Y7 ?_; simp only [tR, bR, eR, true_and]) | (refine Y9 ?_; simp only [tX, bS, bO, Nat.reduceBEq, tN, bN]) | (refine Y4 ?_ ?_; exact Z2) | (refine Y5 ?_ ?_; exact Z2) | (apply Y6; exact Z1; refine ⟨fun hh => ?_, fun hh => ?_⟩))
              all_goals simp only [resV_def (X := dX cGV) Tryz.func47, Tryz.results47, resultsV, resultV, go_sem, *, Nat.reduceLT, Int.reduceEq, Int.reduceBEq, Int.reduceLE, Int.reduceLT, Nat.reduceAdd, Nat.reduceBEq, Nat.reduceEqDiff, reduceIte, Nat.reduceLeDiff, Nat.reduceMul, Nat.reduceSub, reduceCtorEq, frzRes, dFrz, frzCells, isRet_ret, tupleOf]
              rw [← HGN.out, HG.out]
          · have hd : decide ((i : Int) < 12) = false := by simp; omega
            have hi12 : i = 12 := by omega
            have HG := Lib.hid (gauge_all (f := sat) fun j hj => HALL.out j (by omega))
            subst hi12
            clear hlt hi
            repeat' (first | refine Y1 ?_ | refine U7 ?_ | refine U8 ?_ | refine U9 ?_ | refine Y2 ?_ | ((first | refine Y3 ?_ | refine Y8 ?_); simp only [tN, bN, eN, true_and]) | (apply U4; exact Z1; exact rfl; simp only [pM, pN, rR, rP]) | (refine J3 rfl rfl ?_ ?_; exact Z2) | (refine J4 rfl rfl ?_ ?_; exact Z2; simp only [pM, pN, rR, rP]) | (apply U3; exact rfl; exact rfl; exact Z1; refine ⟨fun hh => ?_, fun hh => ?_⟩ <;> try simp only [Bool.not_true, Bool.not_false, pM, pN] at hh ⊢) | (apply U5; exact rfl; exact Z3; simp only [pM, pN, rR, rP]) | (simp only [tP, bP, eP, true_and]) | (refine Y7 ?_; simp only [tR, bR, eR, true_and]) | (refine Y9 ?_; simp only [tX, bS, bO, Nat.reduceBEq, tN, bN]) | (refine Y4 ?_ ?_; exact Z2) | (refine Y5 ?_ ?_; exact Z2) | (apply Y6; exact Z1; refine ⟨fun hh => ?_, fun hh => ?_⟩))
            all_goals simp only [resV_def (X := dX cGV) Tryz.func47, Tryz.results47, resultsV, resultV, go_sem, *, Nat.reduceLT, Int.reduceEq, Int.reduceBEq, Int.reduceLE, Int.reduceLT, Nat.reduceAdd, Nat.reduceBEq, Nat.reduceEqDiff, reduceIte, Nat.reduceLeDiff, Nat.reduceMul, Nat.reduceSub, reduceCtorEq, frzRes, dFrz, frzCells, isRet_ret, tupleOf]
            rw [← HGN.out, HG.out]
        · cases h
      · cases h
    · cases h
  · cases h
noncomputable def c8 : FuncId → Option (List AV → Heap → Option (AV × Heap))
  | 38 => some (pureFn sp38)
  | 44 => some (pureFn sp44)
  | 46 => some (pureFn sp46)
  | 47 => some (pureFn sp47)
  | f => c25 cK f
set_option maxHeartbeats 8000000 in
theorem T8 (ca sa ra : AV) (off : Int) (cx cy wx wy : Sp) (hs st : List Pt) (rs : List Rdg) (hc : isSl ca (hs.map ptC.enc)) (hl : isSl sa (st.map ptC.enc)) (hr : isSl ra (rs.map rdgC.enc)) :
    ClR (dX c8) 8 [.agg [ca, .int .i64 off], .agg [sa, .int .i64 cx.lo, .int .i64 cx.hi, .int .i64 cy.lo, .int .i64 cy.hi, .int .i64 wx.lo, .int .i64 wx.hi, .int .i64 wy.lo, .int .i64 wy.hi, ra]] emptyHp (isRet (.bool true)) := by
  have o1 := hc.out
  have o2 := hl.out
  have o3 := hr.out
  have t1 := hc.tup
  have t2 := hl.tup
  have t3 := hr.tup
  have hp1 := hl.pur (enc_pur ptC st)
  have hp2 := hr.pur (enc_pur rdgC rs)
  have ln1 : lenS ca = some hs.length := by rw [hc.len, List.length_map]
  have k25 : ∀ h, Cl (dX c8) 25 [] h (.ret (.bool true) h none) := fun h => K25 rfl h
  have K38 : ∀ h, Cl (dX c8) 38 [.agg [sa, .int .i64 cx.lo, .int .i64 cx.hi, .int .i64 cy.lo, .int .i64 cy.hi, .int .i64 wx.lo, .int .i64 wx.hi, .int .i64 wy.lo, .int .i64 wy.hi, ra]] h (.ret (.bool (decide ((st.length : Int) ≤ 6) && decide ((rs.length : Int) ≤ 6))) h none) := fun h => by
    have h1 := slLen_mk hl
    have h2 := slLen_mk hr
    exact Cl.intr (g := pureFn sp38) rfl (by simp [pureFn, AV.pur, AV.purL, hp1, hp2, sp38, h1, h2])
  by_cases g : (decide ((st.length : Int) ≤ 6) && decide ((rs.length : Int) ≤ 6)) = true ∧ decide ((hs.length : Int) > 6) = false
  · obtain ⟨ga, gb⟩ := g
    have k38 := K38
    rw [ga] at k38
    have g1 := ga
    simp only [Bool.and_eq_true, decide_eq_true_eq] at g1
    have g2 := gb
    simp only [decide_eq_false_iff_not] at g2
    have v1 : slV ptC ca = some hs := slV_mk hc (by unfold maxL; omega)
    have v2 : slV ptC sa = some st := slV_mk hl (by unfold maxL; omega)
    have v3 : slV rdgC ra = some rs := slV_mk hr (by unfold maxL; omega)
    have k46' : ∀ h, Cl (dX c8) 46 [.agg [ca, .int .i64 off], .agg [sa, .int .i64 cx.lo, .int .i64 cx.hi, .int .i64 cy.lo, .int .i64 cy.hi, .int .i64 wx.lo, .int .i64 wx.hi, .int .i64 wy.lo, .int .i64 wy.hi, ra]] h (.ret (gaugeF (askOk hs st off (machB st cx cy wx wy rs) true) (boundsS (ax0 cx wx rs [])) (boundsS (ax1 cy wy rs [])) (goodB off hs st)) h none) := fun h => Cl.intr (g := pureFn sp46) rfl (by simp [pureFn, AV.pur, AV.purL, sl_pur v1, hp1, hp2, sp46, v1, v2, v3])
    have k44' : ∀ h, Cl (dX c8) 44 [.agg [ca, .int .i64 off], .agg [sa, .int .i64 cx.lo, .int .i64 cx.hi, .int .i64 cy.lo, .int .i64 cy.hi, .int .i64 wx.lo, .int .i64 wx.hi, .int .i64 wy.lo, .int .i64 wy.hi, ra], .int .i64 1, .int .i64 1] h (.ret (.int .i64 (heldI hs st off (machB st cx cy wx wy rs) ((boundsS (ax0 cx wx rs [])).isSome && (boundsS (ax1 cy wy rs [])).isSome) (inB 1 1 12))) h none) := fun h => Cl.intr (g := pureFn sp44) rfl (by simp [pureFn, AV.pur, AV.purL, sl_pur v1, hp1, hp2, sp44, v1, v2, v3])
    rw [held_ask, show inB 1 1 12 = true from rfl] at k44'
    have k47' : ∀ a b, boundsS (ax0 cx wx rs []) = some a → boundsS (ax1 cy wy rs []) = some b → askOk hs st off (machB st cx cy wx wy rs) true = true → ∀ h, Cl (dX c8) 47 [.agg [ca, .int .i64 off], .agg [sa, .int .i64 cx.lo, .int .i64 cx.hi, .int .i64 cy.lo, .int .i64 cy.hi, .int .i64 wx.lo, .int .i64 wx.hi, .int .i64 wy.lo, .int .i64 wy.hi, ra]] h (.ret (.int .i64 (gaugeN (sureAt (goodB off hs st) a b) : Nat)) h none) := fun a b hA hB hok h => Cl.intr (g := pureFn sp47) rfl (by
      simp only [pureFn, AV.pur, AV.purL, sl_pur v1, hp1, hp2, Bool.and_self, if_true, sp47, v1, v2, v3, hA, hB, hok])
    have b20 : ((2 : Int) != 0) = true := rfl
    have b00 : ((0 : Int) != 0) = false := rfl
    have e00 : ((0 : Int) == 0) = true := rfl
    clear hc hl hr hp1 hp2 v1 v2 v3 K38 ga g1 g2
    generalize askOk hs st off (machB st cx cy wx wy rs) true = ok at *
    generalize boundsS (ax0 cx wx rs []) = A at *
    generalize boundsS (ax1 cy wy rs []) = B at *
    refine ClR.walk (c := _) rfl Tryz.func8 rfl (by kernel_rfl) rfl isRet_fail ?_
    simp only [entryEnv, Nat.reduceAdd, emptyHp]
    have hcase : (∃ w e, gaugeF ok A B (goodB off hs st) = .tuple [.int .i64 w, .int .i64 e] ∧ (if ok then (if (A.isSome && B.isSome) then (0 : Int) else 7) else 2) = e ∧ w = 0 ∧ (e == e) = true ∧ (e != 0) = true) ∨ (∃ w : Int, gaugeF ok A B (goodB off hs st) = .tuple [.int .i64 w, .int .i64 0] ∧ (if ok then (if (A.isSome && B.isSome) then (0 : Int) else 7) else 2) = 0 ∧ ∀ h, Cl (dX c8) 47 [.agg [ca, .int .i64 off], .agg [sa, .int .i64 cx.lo, .int .i64 cx.hi, .int .i64 cy.lo, .int .i64 cy.hi, .int .i64 wx.lo, .int .i64 wx.hi, .int .i64 wy.lo, .int .i64 wy.hi, ra]] h (.ret (.int .i64 w) h none)) := by
      cases ok with
      | false => exact .inl ⟨0, 2, rfl, rfl, rfl, rfl, rfl⟩
      | true =>
        cases A with
        | none => exact .inl ⟨0, 7, rfl, rfl, rfl, rfl, rfl⟩
        | some a =>
          cases B with
          | none => exact .inl ⟨0, 7, rfl, rfl, rfl, rfl, rfl⟩
          | some b => exact .inr ⟨_, rfl, rfl, k47' a b rfl rfl rfl⟩
    clear k47'
    rcases hcase with ⟨w, e, e1, e2, rfl, x1, x2⟩ | ⟨w, e1, e2, k47⟩
    · rw [e1] at k46'
      rw [e2] at k44'
      have k46 := k46'
      have k44 := k44'
      clear k46' k44' e1 e2
      repeat' (first | refine Y1 ?_ | refine U7 ?_ | refine U8 ?_ | refine U9 ?_ | refine Y2 ?_ | ((first | refine Y3 ?_ | refine Y8 ?_); simp only [tN, bN, eN, true_and]) | (apply U4; exact Z1; exact rfl; simp only [pM, pN, rR, rP]) | (refine J3 rfl rfl ?_ ?_; exact Z2) | (refine J4 rfl rfl ?_ ?_; exact Z2; simp only [pM, pN, rR, rP]) | (apply U3; exact rfl; exact rfl; exact Z1; refine ⟨fun hh => ?_, fun hh => ?_⟩ <;> try simp only [Bool.not_true, Bool.not_false, pM, pN] at hh ⊢) | (apply U6; exact Z1; exact Z1; (focus (simp only [List.nil_append, List.append_nil]; first | exact k38 _ | exact k46 _ | exact k44 _ | exact k25 _)); simp only [pM, pN, rR, rP]) | (apply U5; exact rfl; exact Z3; simp only [pM, pN, rR, rP]) | (simp only [tP, bP, eP, true_and]) | (refine Y7 ?_; simp only [tR, bR, eR, true_and]) | (refine Y9 ?_; simp only [tX, bS, bO, Nat.reduceBEq, tN, bN]) | (refine Y4 ?_ ?_; exact Z2) | (refine Y5 ?_ ?_; exact Z2) | (apply Y6; exact Z1; refine ⟨fun hh => ?_, fun hh => ?_⟩))
      all_goals simp only [resV_def (X := dX c8) Tryz.func8, Tryz.results8, resultsV, resultV, go_sem, *, Nat.reduceLT, Int.reduceEq, Int.reduceBEq, Int.reduceLE, Int.reduceLT, Nat.reduceAdd, Nat.reduceBEq, Nat.reduceEqDiff, reduceIte, Nat.reduceLeDiff, Nat.reduceMul, Nat.reduceSub, reduceCtorEq, frzRes, dFrz, frzCells, isRet_ret, tupleOf]
    · rw [e1] at k46'
      rw [e2] at k44'
      have k46 := k46'
      have k44 := k44'
      have x1 : (w == w) = true := by simp
      clear k46' k44' e1 e2
      repeat' (first | refine Y1 ?_ | refine U7 ?_ | refine U8 ?_ | refine U9 ?_ | refine Y2 ?_ | ((first | refine Y3 ?_ | refine Y8 ?_); simp only [tN, bN, eN, true_and]) | (apply U4; exact Z1; exact rfl; simp only [pM, pN, rR, rP]) | (refine J3 rfl rfl ?_ ?_; exact Z2) | (refine J4 rfl rfl ?_ ?_; exact Z2; simp only [pM, pN, rR, rP]) | (apply U3; exact rfl; exact rfl; exact Z1; refine ⟨fun hh => ?_, fun hh => ?_⟩ <;> try simp only [Bool.not_true, Bool.not_false, pM, pN] at hh ⊢) | (apply U6; exact Z1; exact Z1; (focus (simp only [List.nil_append, List.append_nil]; first | exact k38 _ | exact k46 _ | exact k44 _ | exact k47 _ | exact k25 _)); simp only [pM, pN, rR, rP]) | (apply U5; exact rfl; exact Z3; simp only [pM, pN, rR, rP]) | (simp only [tP, bP, eP, true_and]) | (refine Y7 ?_; simp only [tR, bR, eR, true_and]) | (refine Y9 ?_; simp only [tX, bS, bO, Nat.reduceBEq, tN, bN]) | (refine Y4 ?_ ?_; exact Z2) | (refine Y5 ?_ ?_; exact Z2) | (apply Y6; exact Z1; refine ⟨fun hh => ?_, fun hh => ?_⟩))
      all_goals simp only [resV_def (X := dX c8) Tryz.func8, Tryz.results8, resultsV, resultV, go_sem, *, Nat.reduceLT, Int.reduceEq, Int.reduceBEq, Int.reduceLE, Int.reduceLT, Nat.reduceAdd, Nat.reduceBEq, Nat.reduceEqDiff, reduceIte, Nat.reduceLeDiff, Nat.reduceMul, Nat.reduceSub, reduceCtorEq, frzRes, dFrz, frzCells, isRet_ret, tupleOf]
  · have hd : (decide ((st.length : Int) ≤ 6) && decide ((rs.length : Int) ≤ 6)) = false ∨ ((decide ((st.length : Int) ≤ 6) && decide ((rs.length : Int) ≤ 6)) = true ∧ decide ((hs.length : Int) > 6) = true) := by
      by_cases ga : (decide ((st.length : Int) ≤ 6) && decide ((rs.length : Int) ≤ 6)) = true
      · by_cases gb : decide ((hs.length : Int) > 6) = true
        · exact .inr ⟨ga, gb⟩
        · exact absurd ⟨ga, Bool.eq_false_iff.2 gb⟩ g
      · exact .inl (Bool.eq_false_iff.2 ga)
    have k38 := K38
    clear hc hl hr hp1 hp2 K38 g
    generalize (decide ((st.length : Int) ≤ 6) && decide ((rs.length : Int) ≤ 6)) = sl at *
    refine ClR.walk (c := _) rfl Tryz.func8 rfl (by kernel_rfl) rfl isRet_fail ?_
    simp only [entryEnv, Nat.reduceAdd, emptyHp]
    rcases hd with rfl | ⟨rfl, y1⟩
    all_goals (
      repeat' (first | refine Y1 ?_ | refine U7 ?_ | refine U8 ?_ | refine U9 ?_ | refine Y2 ?_ | ((first | refine Y3 ?_ | refine Y8 ?_); simp only [tN, bN, eN, true_and]) | (apply U4; exact Z1; exact rfl; simp only [pM, pN, rR, rP]) | (refine J3 rfl rfl ?_ ?_; exact Z2) | (refine J4 rfl rfl ?_ ?_; exact Z2; simp only [pM, pN, rR, rP]) | (apply U3; exact rfl; exact rfl; exact Z1; refine ⟨fun hh => ?_, fun hh => ?_⟩ <;> try simp only [Bool.not_true, Bool.not_false, pM, pN] at hh ⊢) | (apply U6; exact Z1; exact Z1; (focus (simp only [List.nil_append, List.append_nil]; first | exact k38 _ | exact k25 _)); simp only [pM, pN, rR, rP]) | (apply U5; exact rfl; exact Z3; simp only [pM, pN, rR, rP]) | (simp only [tP, bP, eP, true_and]) | (refine Y7 ?_; simp only [tR, bR, eR, true_and]) | (refine Y9 ?_; simp only [tX, bS, bO, Nat.reduceBEq, tN, bN]) | (refine Y4 ?_ ?_; exact Z2) | (refine Y5 ?_ ?_; exact Z2) | (apply Y6; exact Z1; refine ⟨fun hh => ?_, fun hh => ?_⟩))
      all_goals simp only [resV_def (X := dX c8) Tryz.func8, Tryz.results8, resultsV, resultV, go_sem, *, Nat.reduceLT, Int.reduceEq, Int.reduceBEq, Int.reduceLE, Int.reduceLT, Nat.reduceAdd, Nat.reduceBEq, Nat.reduceEqDiff, reduceIte, Nat.reduceLeDiff, Nat.reduceMul, Nat.reduceSub, reduceCtorEq, frzRes, dFrz, frzCells, isRet_ret, tupleOf])
end Go.AM
set_option maxRecDepth 100000
namespace Go.AM
open Go Go.Proofs
variable [Keep]
theorem ag33 : isAggT Tryz.prog 33 = true := by simp [isAggT, Tryz.underlying33]
theorem Sh.meas {n : Nat} {xs : List AV} (h : Sh Tryz.prog (n + 4) 33 xs) : ∃ (a : AV) (l : List Pt) (off : Int), xs = [a, .int .i64 off] ∧ isSl a (l.map ptC.enc) := by
  obtain ⟨x1, y1, rfl, h1, x2, y2, rfl, h2, rfl⟩ := Sh.struct Tryz.underlying33 h
  obtain ⟨a, l, rfl, hl⟩ := Sh.pts h1
  obtain ⟨off, rfl⟩ := Sh.i64 h2
  exact ⟨a, l, off, rfl, hl⟩
end Go.AM
set_option maxRecDepth 100000
namespace Go.AM
open Go Go.Proofs
variable [Keep]
theorem ag51 : isAggT Tryz.prog 51 = true := by simp [isAggT, Tryz.underlying51]
theorem ag95 : isAggT Tryz.prog 95 = true := by simp [isAggT, Tryz.underlying95]
theorem Sh.sp {n : Nat} {xs : List AV} (h : Sh Tryz.prog (n + 2) 48 xs) : ∃ p : Sp, xs = [.int .i64 p.lo, .int .i64 p.hi] := by
  obtain ⟨x, y, rfl, h1, x2, y2, rfl, h2, rfl⟩ := Sh.struct Tryz.underlying48 h
  obtain ⟨a, rfl⟩ := Sh.i64 h1
  obtain ⟨b, rfl⟩ := Sh.i64 h2
  exact ⟨⟨a, b⟩, rfl⟩
theorem Sh.rdg {n : Nat} {xs : List AV} (h : Sh Tryz.prog (n + 2) 95 xs) : ∃ p : Rdg, xs = [.int .i64 p.b, .int .i64 p.x, .int .i64 p.y, .int .i64 p.err] := by
  obtain ⟨x, y, rfl, h1, x2, y2, rfl, h2, x3, y3, rfl, h3, x4, y4, rfl, h4, rfl⟩ := Sh.struct Tryz.underlying95 h
  obtain ⟨a, rfl⟩ := Sh.i64 h1
  obtain ⟨b, rfl⟩ := Sh.i64 h2
  obtain ⟨c, rfl⟩ := Sh.i64 h3
  obtain ⟨d, rfl⟩ := Sh.i64 h4
  exact ⟨⟨a, b, c, d⟩, rfl⟩
theorem Sh.rdgs {n : Nat} {xs : List AV} (h : Sh Tryz.prog (n + 3) 49 xs) : ∃ (a : AV) (l : List Rdg), xs = [a] ∧ isSl a (l.map rdgC.enc) :=
  Sh.slice rdgC Tryz.underlying49 (fun xs h => by
    obtain ⟨p, rfl⟩ := Sh.rdg h
    exact ⟨p, by rw [ag95]; rfl⟩) h
theorem Sh.mach {n : Nat} {xs : List AV} (h : Sh Tryz.prog (n + 4) 51 xs) : ∃ (sa ra : AV) (cx cy wx wy : Sp) (st : List Pt) (rs : List Rdg),
    xs = [sa, .int .i64 cx.lo, .int .i64 cx.hi, .int .i64 cy.lo, .int .i64 cy.hi, .int .i64 wx.lo, .int .i64 wx.hi, .int .i64 wy.lo, .int .i64 wy.hi, ra] ∧ isSl sa (st.map ptC.enc) ∧ isSl ra (rs.map rdgC.enc) := by
  obtain ⟨x1, y1, rfl, h1, x2, y2, rfl, h2, x3, y3, rfl, h3, x4, y4, rfl, h4, x5, y5, rfl, h5, x6, y6, rfl, h6, rfl⟩ := Sh.struct Tryz.underlying51 h
  obtain ⟨sa, st, rfl, hs⟩ := Sh.pts h1
  obtain ⟨cx, rfl⟩ := Sh.sp h2
  obtain ⟨cy, rfl⟩ := Sh.sp h3
  obtain ⟨wx, rfl⟩ := Sh.sp h4
  obtain ⟨wy, rfl⟩ := Sh.sp h5
  obtain ⟨ra, rs, rfl, hr⟩ := Sh.rdgs h6
  exact ⟨sa, ra, cx, cy, wx, wy, st, rs, rfl, hs, hr⟩
end Go.AM
set_option maxRecDepth 100000
namespace Go.AM
open Go Go.Proofs
variable [Keep]
theorem c8_sound (hT : TabK Tryz.prog) : Sound (dX c8) := dX_sound (fun f g h => by
  unfold c8 at h
  split at h
  · cases h; exact F38
  · cases h; exact F44
  · cases h; exact F46
  · cases h; exact F47
  · exact (c25_sound hT).intr f g h)
end Go.AM
namespace Go.Proofs.YtlhcjccaimmhgaaGreatDoor
open Go Go.AM Go.ChangeShapes Go.WideShapes Go.ChangeAt Go.RowKit
theorem law8 [Keep] (hT : TabK Tryz.prog) (avs : List AV) (h : ArgsOk Tryz.prog Tryz.f8.params.toList avs) : ∃ X, X.P = Tryz.prog ∧ Sound X ∧ ∃ h', Cl X 8 avs emptyHp (.ret (.bool true) h' none) := by
  rw [Tryz.params8] at h
  rcases h with _ | ⟨k1, _ | ⟨k2, _ | _⟩⟩
  obtain ⟨ca, hs, off, rfl, hc⟩ := Sh.meas k1
  obtain ⟨sa, ra, cx, cy, wx, wy, st, rs, rfl, hl, hr⟩ := Sh.mach k2
  rw [ag33, ag51]
  exact ⟨dX c8, rfl, c8_sound hT, (T8 ca sa ra off cx cy wx wy hs st rs hc hl hr).gives⟩
theorem drillGauges_lifted (os : Os) (started : os.Started) (H : Type) (enc : TypeId × Value → H) :
    ReturnsInHanded {} Tryz.checked os 8 .any (fun w args => (Rows.drillGaugesSpec.pre enc Tryz.prog Tryz.f8 Rows.drillGaugesRow.domain false w args ∧ laidMetH Tryz.prog laidL w) ∧ sizedMet enc Tryz.prog Tryz.f8 (OpenSpec.ofChange Rows.drillGaugesSpec) false w args)
      (Rows.drillGaugesSpec.post enc Tryz.prog Tryz.f8 false true false false) := by
  refine returnsInHanded_of_change_and (C := Tryz.checked) (X := fun w _ => laidMetH Tryz.prog laidL w) (fun _ _ _ hh h => h.of_heap hh) own started (by kernel_rfl) Tryz.func8
    (ChangeSpec.witness_shaped (enc := enc) (C := Tryz.checked) (os := os) (X := fun w _ => laidMetH Tryz.prog laidL w) false (World.laidAll Tryz.prog os laidL) #[.agg #[.slice none 0 0, .int .i64 0], .agg #[.slice none 0 0, .int .i64 0, .int .i64 0, .int .i64 0, .int .i64 0, .int .i64 0, .int .i64 0, .int .i64 0, .int .i64 0, .slice none 0 0]] 8 (World.laidAll_os _ _ _)
      (World.shaped_of_ZipB (by kernel_rfl) (by kernel_rfl)) (by kernel_rfl) (by kernel_rfl) (by kernel_rfl)
      (by rw [MakeChecks.laidMetH_plain _ _ _ (by kernel_rfl)]; exact laidMet_laidAll _ (by kernel_rfl) (by kernel_rfl))) ?_
  intro W base args ds gs before hval hW _ _ hL _
  exact lawHolds Tryz.func8 (by kernel_rfl) rfl (fun ds hd => by
    match ds, hd with
    | [d1, d2], _ => rfl) (by rw [Tryz.params8]; intro t ht; simp at ht; rcases ht with rfl | rfl <;> kernel_rfl) (by rw [Tryz.params8]; intro t ht; simp at ht; rcases ht with rfl | rfl <;> exact ⟨by kernel_rfl, of_decide_eq_true (by kernel_rfl)⟩)
    (fun hT avs h => law8 hT avs h) W base args ds gs before hval hW hL
theorem in8 : (Rows.drillGaugesRow.inPlace == Tryz.prog.inPlace 8) = true := by kernel_rfl
theorem unf8 : (Rows.drillGaugesRow.unfollowed == Tryz.prog.unfollowed 8) = true := by kernel_rfl
theorem rec8 : (Rows.drillGaugesRow.recurses == Tryz.prog.recurses 8) = true := by kernel_rfl
theorem nam8 : (Rows.drillGaugesRow.named == Tryz.prog.varsNamed 8) = true := by kernel_rfl
theorem closed8 : joinedFacts Tryz.prog 8 Tryz.f8 Rows.drillGaugesSpec Rows.drillGaugesRow = true := by
  unfold joinedFacts
  rw [enter_ok, lifts_ok, make_ok]
  repeat' (with_reducible apply and_mk)
  all_goals (first | with_reducible exact laidOut | with_reducible exact rowed | with_reducible exact in8 | with_reducible exact unf8 | with_reducible exact rec8 | with_reducible exact nam8 | kernel_rfl)
theorem drillGauges_holds : Rows.DrillGaugesSaid :=
  OpenClaim.holds_of_wide 8 Tryz.f8 rfl rfl rfl rfl rfl rfl rfl ⟨rfl, rfl, rfl, rfl, rfl⟩ rfl rfl rfl rfl rfl (by kernel_rfl) Tryz.func8 closed8
    (of_decide_eq_true (by kernel_rfl)) (by unfold Func.isWrapper; rw [if_neg (of_decide_eq_false (by kernel_rfl))]; exact ⟨rfl, rfl⟩)
    (fun os started H enc _ => drillGauges_lifted os started H enc)
theorem goes8 : false = Rows.drillGaugesRow.goesBy Tryz.prog := by kernel_rfl
theorem drillGauges_card : Rows.DrillGaugesCardSaid :=
  Claim7.holds_tied_plain_at .later [] [.data, .data, .data] true (true, "b61a08fa8ce36e10ae208529fc07d9da226449fa0c1a03ee5c8317728ea357ba") true drillGauges_holds (fun _ h => by cases h) (by kernel_rfl) (fun _ h => by cases h) drillGauges_row_tie rfl ⟨rfl, rfl⟩ main_ok rfl
    (fun f fn hf hfn => by
      obtain rfl : f = 8 := Option.some.inj ((show Tryz.prog.funcNamed "nacre/nacrelaw02.DrillGauges" = some 8 by kernel_rfl).symm.trans hf) |>.symm
      obtain rfl : fn = Tryz.f8 := (Option.some.inj (Tryz.func8.symm.trans hfn)).symm
      exact ⟨looks_ok, fun j t ht => by
        rw [Tryz.params8] at ht
        have hm : t ∈ [33, 51] := by simpa using Array.mem_of_getElem? ht
        have hall : ([33, 51].all fun u => !Tryz.prog.wantsStandIn u) = true := by kernel_rfl
        exact (show Tryz.prog.wantsStandIn t = false by simpa using List.all_eq_true.1 hall t hm)⟩)
    goes8
end Go.Proofs.YtlhcjccaimmhgaaGreatDoor
