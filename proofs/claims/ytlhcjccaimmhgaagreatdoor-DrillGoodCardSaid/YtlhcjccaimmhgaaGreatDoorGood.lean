/-
  DrillGood: for every measure, every machine, every proposed truth and every blank the law returns true, and its arguments read behind the call as before. No condition but the row's own: the tables of Go's library that it lists hold what the program's text lays there.
-/
import Derived.Test.YtlhcjccaimmhgaaGreatDoorFnS
import Derived.Test.YtlhcjccaimmhgaaGreatDoorShared
import Derived.Test.YtlhcjccaimmhgaaGreatDoorFnD
import Derived.Test.YtlhcjccaimmhgaaGreatDoorHeadB
import Derived.Test.YtlhcjccaimmhgaaGreatDoorCards
set_option linter.unusedSectionVars false
set_option linter.unusedVariables false
set_option linter.unusedSimpArgs false
set_option maxRecDepth 100000
namespace Go.AM
open Go Go.Proofs
variable [Keep]
attribute [local irreducible] W WO WO1 WD WQ WT thenQ blockQ endR isRet retK Cl ClR
attribute [local irreducible] matchS boundsS machB measB sureW goodB askOk gaugeN sureAt fitsM truthB
noncomputable def c16 : FuncId → Option (List AV → Heap → Option (AV × Heap))
  | 31 => some (pureFn sp31)
  | 34 => some (pureFn sp34)
  | 38 => some (pureFn sp38)
  | 41 => some (pureFn sp41)
  | 43 => some (pureFn sp43)
  | 46 => some (pureFn sp46)
  | 70 => some (pureFn sp70)
  | 71 => some (flatFn sp71)
  | 72 => some (pureFn sp72)
  | 73 => some (pureFn sp73)
  | 74 => some (pureFn sp74)
  | f => c25 cK f
theorem good_def (off : Int) (hs st : List Pt) (p : Pt) : goodB off hs st p = (matchS off hs (movedL st p.x p.y)).isSome := by unfold goodB; rfl
theorem ask_all {hs st : List Pt} {off : Int} (h1 : measB hs off = true) (h2 : st.length = hs.length) : askOk hs st off true true = true := by
  unfold askOk
  rw [h1]
  simp [h2]
set_option maxHeartbeats 16000000 in
theorem T16 (ca sa ra xa ya : AV) (off blank : Int) (cx cy wx wy : Sp) (hs st : List Pt) (rs : List Rdg) (xs ys : List Int) (hc : isSl ca (hs.map ptC.enc)) (hl0 : isSl sa (st.map ptC.enc)) (hr : isSl ra (rs.map rdgC.enc)) (hl : isSl xa (xs.map intC.enc)) (hl2 : isSl ya (ys.map intC.enc)) :
    ClR (dX c16) 16 [.agg [ca, .int .i64 off], .agg [sa, .int .i64 cx.lo, .int .i64 cx.hi, .int .i64 cy.lo, .int .i64 cy.hi, .int .i64 wx.lo, .int .i64 wx.hi, .int .i64 wy.lo, .int .i64 wy.hi, ra], .agg [xa, ya], .int .i64 blank] emptyHp (isRet (.bool true)) := by
  have o1 := hc.out
  have o2 := hl0.out
  have o3 := hr.out
  have o4 := hl.out
  have o5 := hl2.out
  have t1 := hc.tup
  have t2 := hl0.tup
  have t3 := hr.tup
  have t4 := hl.tup
  have t5 := hl2.tup
  have hp1 := hl0.pur (enc_pur ptC st)
  have hp2 := hr.pur (enc_pur rdgC rs)
  have hp3 := hl.pur (enc_pur intC xs)
  have hp4 := hl2.pur (enc_pur intC ys)
  have ln1 : lenS ca = some hs.length := by rw [hc.len, List.length_map]
  have ln2 : lenS sa = some st.length := by rw [hl0.len, List.length_map]
  have k25 : ∀ h, Cl (dX c16) 25 [] h (.ret (.bool true) h none) := fun h => K25 rfl h
  have K38 : ∀ h, Cl (dX c16) 38 [.agg [sa, .int .i64 cx.lo, .int .i64 cx.hi, .int .i64 cy.lo, .int .i64 cy.hi, .int .i64 wx.lo, .int .i64 wx.hi, .int .i64 wy.lo, .int .i64 wy.hi, ra]] h (.ret (.bool (decide ((st.length : Int) ≤ 6) && decide ((rs.length : Int) ≤ 6))) h none) := fun h => by
    have h1 := slLen_mk hl0
    have h2 := slLen_mk hr
    exact Cl.intr (g := pureFn sp38) rfl (by simp [pureFn, AV.pur, AV.purL, hp1, hp2, sp38, h1, h2])
  have K70 : ∀ h, Cl (dX c16) 70 [.agg [xa, ya]] h (.ret (.bool (decide ((xs.length : Int) ≤ 15) && decide ((ys.length : Int) ≤ 15))) h none) := fun h => by
    have h1 := slLen_mk hl
    have h2 := slLen_mk hl2
    exact Cl.intr (g := pureFn sp70) rfl (by simp [pureFn, AV.pur, AV.purL, hp3, hp4, sp70, h1, h2])
  have k41 : ∀ h, Cl (dX c16) 41 [.int .i64 blank, .int .i64 1] h (.ret (.bool (inB blank 1 12)) h none) := fun h => Cl.intr (g := pureFn sp41) rfl rfl
  by_cases gs : (decide ((st.length : Int) ≤ 6) && decide ((rs.length : Int) ≤ 6)) = true ∧ (decide ((xs.length : Int) ≤ 15) && decide ((ys.length : Int) ≤ 15)) = true ∧ decide ((hs.length : Int) > 6) = false
  · obtain ⟨ga, gb, gc⟩ := gs
    have k38 := K38
    have k70 := K70
    rw [ga] at k38
    rw [gb] at k70
    simp only [Bool.and_eq_true, decide_eq_true_eq] at ga gb
    have gd := gc
    simp only [decide_eq_false_iff_not] at gd
    have v1 : slV ptC ca = some hs := slV_mk hc (by unfold maxL; omega)
    have v2 : slV ptC sa = some st := slV_mk hl0 (by unfold maxL; omega)
    have v3 : slV rdgC ra = some rs := slV_mk hr (by unfold maxL; omega)
    have v4 : slV intC xa = some xs := slV_mk hl (by unfold maxL; omega)
    have v5 : slV intC ya = some ys := slV_mk hl2 (by unfold maxL; omega)
    have k31 : ∀ h, Cl (dX c16) 31 [.agg [ca, .int .i64 off]] h (.ret (.bool (measB hs off)) h none) := fun h => Cl.intr (g := pureFn sp31) rfl (by simp [pureFn, AV.pur, AV.purL, sl_pur v1, sp31, v1])
    have k71 : ∀ h, Cl (dX c16) 71 [.agg [sa, .int .i64 cx.lo, .int .i64 cx.hi, .int .i64 cy.lo, .int .i64 cy.hi, .int .i64 wx.lo, .int .i64 wx.hi, .int .i64 wy.lo, .int .i64 wy.hi, ra]] h (.ret (.bool (machB st cx cy wx wy rs)) h none) := fun h => by
      have := K71 (X := dX c16) rfl sa ra st rs cx cy wx wy v2 v3 h
      rw [machR_B] at this
      exact this
    have k72 : ∀ h, Cl (dX c16) 72 [.agg [xa, ya]] h (.ret (.bool (truthB xs ys)) h none) := fun h => K72 (X := dX c16) rfl xa ya xs ys v4 v5 h
    by_cases hall : measB hs off = true ∧ machB st cx cy wx wy rs = true ∧ ((hs.length : Int) != (st.length : Int)) = false ∧ truthB xs ys = true ∧ inB blank 1 12 = true
    · obtain ⟨m1, m2, m3, m4, m5⟩ := hall
      have k73 : ∀ h, Cl (dX c16) 73 [.agg [sa, .int .i64 cx.lo, .int .i64 cx.hi, .int .i64 cy.lo, .int .i64 cy.hi, .int .i64 wx.lo, .int .i64 wx.hi, .int .i64 wy.lo, .int .i64 wy.hi, ra], .agg [xa, ya]] h (.ret (fitV (machB st cx cy wx wy rs && truthB xs ys) (fitsM cx cy wx wy rs xs ys)) h none) := fun h =>
        Cl.intr (g := pureFn sp73) rfl (by simp [pureFn, AV.pur, AV.purL, hp1, hp2, hp3, hp4, sp73, v2, v3, v4, v5])
      rw [m2, m4] at k73
      simp only [fitV, Bool.and_self, if_true] at k73
      have n00 : ((0 : Int) != 0) = false := rfl
      have n05 : ((0 : Int) != 5) = true := rfl
      have n50 : ((5 : Int) != 0) = true := rfl
      have n55 : ((5 : Int) != 5) = false := rfl
      have q00 : ((0 : Int) == 0) = true := rfl
      have q55 : ((5 : Int) == 5) = true := rfl
      have q50 : ((5 : Int) == 0) = false := rfl
      have q05 : ((0 : Int) == 5) = false := rfl
      cases hf : fitsM cx cy wx wy rs xs ys with
      | false =>
        rw [hf] at k73
        rw [m1] at k31
        rw [m2] at k71
        rw [m4] at k72
        rw [m5] at k41
        clear hc hl0 hr hl hl2 hp1 hp2 hp3 hp4 v1 v2 v3 v4 v5 K38 K70 ga gb gd m1 m2 m4 m5 hf
        refine ClR.walk (c := _) rfl Tryz.func16 rfl (by kernel_rfl) rfl isRet_fail ?_
        simp only [entryEnv, Nat.reduceAdd, emptyHp]
        repeat' (first | refine Y1 ?_ | refine U7 ?_ | refine U8 ?_ | refine U9 ?_ | refine Y2 ?_ | ((first | refine Y3 ?_ | refine Y8 ?_); simp only [tN, bN, eN, true_and]) | (apply U4; exact Z1; exact rfl; simp only [pM, pN, rR, rP]) | (refine J3 rfl rfl ?_ ?_; exact Z2) | (refine J4 rfl rfl ?_ ?_; exact Z2; simp only [pM, pN, rR, rP]) | (apply U3; exact rfl; exact rfl; exact Z1; refine ⟨fun hh => ?_, fun hh => ?_⟩ <;> try simp only [Bool.not_true, Bool.not_false, pM, pN] at hh ⊢) | (apply U6; exact Z1; exact Z1; (focus (simp only [List.nil_append, List.append_nil]; first | exact k38 _ | exact k70 _ | exact k31 _ | exact k71 _ | exact k72 _ | exact k41 _ | exact k73 _ | exact k25 _)); simp only [pM, pN, rR, rP]) | (apply U5; exact rfl; exact Z3; simp only [pM, pN, rR, rP]) | (simp only [tP, bP, eP, true_and]) | (refine Y7 ?_; simp only [tR, bR, eR, true_and]) | (refine Y9 ?_; simp only [tX, bS, bO, Nat.reduceBEq, tN, bN]) | (refine Y4 ?_ ?_; exact Z2) | (refine Y5 ?_ ?_; exact Z2) | (apply Y6; exact Z1; refine ⟨fun hh => ?_, fun hh => ?_⟩))
        all_goals simp only [resV_def (X := dX c16) Tryz.func16, Tryz.results16, resultsV, resultV, go_sem, *, Nat.reduceLT, Int.reduceEq, Int.reduceBEq, Int.reduceLE, Int.reduceLT, Nat.reduceAdd, Nat.reduceBEq, Nat.reduceEqDiff, reduceIte, Nat.reduceLeDiff, Nat.reduceMul, Nat.reduceSub, reduceCtorEq, frzRes, dFrz, frzCells, isRet_ret, tupleOf]
      | true =>
        rw [hf] at k73
        obtain ⟨a, hA, ha1, ha2⟩ := true_x m2 m4 hf
        obtain ⟨b, hB, hb1, hb2⟩ := true_y m2 m4 hf
        have hbl := m5
        simp only [inB, Bool.and_eq_true, decide_eq_true_eq] at hbl
        obtain ⟨k, rfl⟩ : ∃ k : Nat, blank = k := ⟨blank.toNat, by omega⟩
        have htn : ((k : Nat) : Int).toNat = k := by omega
        have hlen : st.length = hs.length := by
          simp at m3
          omega
        have hms := meas_len m1
        have hask := ask_all (off := off) m1 hlen
        have k46 : ∀ h, Cl (dX c16) 46 [.agg [ca, .int .i64 off], .agg [sa, .int .i64 cx.lo, .int .i64 cx.hi, .int .i64 cy.lo, .int .i64 cy.hi, .int .i64 wx.lo, .int .i64 wx.hi, .int .i64 wy.lo, .int .i64 wy.hi, ra]] h (.ret (.tuple [.int .i64 (gaugeN (sureAt (goodB off hs st) a b) : Nat), .int .i64 0]) h none) := fun h => Cl.intr (g := pureFn sp46) rfl (by
          simp only [pureFn, AV.pur, AV.purL, sl_pur v1, hp1, hp2, Bool.and_self, if_true, sp46, v1, v2, v3, m2, hask, hA, hB, gaugeF])
        have k43 : ∀ h, Cl (dX c16) 43 [.agg [ca, .int .i64 off], .agg [sa, .int .i64 cx.lo, .int .i64 cx.hi, .int .i64 cy.lo, .int .i64 cy.hi, .int .i64 wx.lo, .int .i64 wx.hi, .int .i64 wy.lo, .int .i64 wy.hi, ra], .int .i64 ↑k] h (.ret (.tuple [.int .i64 (sureAt (goodB off hs st) a b k), .int .i64 0]) h none) := fun h => Cl.intr (g := pureFn sp43) rfl (by
          simp only [pureFn, AV.pur, AV.purL, sl_pur v1, hp1, hp2, Bool.and_self, if_true, sp43, v1, v2, v3, m2, m5, hask, hA, hB, sureF, htn, sure_at])
        have hin0 : inB (k : Int) 0 12 = true := by simp only [inB, Bool.and_eq_true, decide_eq_true_eq]; omega
        generalize hx : xs.getD k 0 = x at *
        generalize hy : ys.getD k 0 = y at *
        have k74 : ∀ h, Cl (dX c16) 74 [.agg [sa, .int .i64 cx.lo, .int .i64 cx.hi, .int .i64 cy.lo, .int .i64 cy.hi, .int .i64 wx.lo, .int .i64 wx.hi, .int .i64 wy.lo, .int .i64 wy.hi, ra], .agg [xa, ya], .int .i64 ↑k] h (.ret (.tuple [slN ((movedL st x y).map ptC.enc), .int .i64 0]) h none) := fun h =>
          Cl.intr (g := pureFn sp74) rfl (by
            simp only [pureFn, AV.pur, AV.purL, hp1, hp2, hp3, hp4, Bool.and_self, if_true, sp74, v2, v3, v4, v5, m2, m4, hf, hin0, htn, hx, hy, holeV])
        have hmv : slV ptC (slN ((movedL st x y).map ptC.enc)) = some (movedL st x y) := slV_slN (by rw [movedL_len]; unfold maxL; omega)
        have ga2 := ha2 k (by omega)
        have gb2 := hb2 k (by omega)
        rw [hx] at ga2
        rw [hy] at gb2
        have hbd := spans_ok m2 hA hB (k := k) (by omega)
        have e1 : ax0 cx wx rs [] = ⟨cx, wx, lims155 rs⟩ := by simp [ax0]
        have e2 : ax1 cy wy rs [] = ⟨cy, wy, lims156 rs⟩ := by simp [ax1]
        have b1 := (bnd_of (good_x m2) (by rw [← e1]; exact hA)).small k (by omega)
        have b2 := (bnd_of (good_y m2) (by rw [← e2]; exact hB)).small k (by omega)
        have r1 := ga2.1
        have r2 := ga2.2
        have r3 := gb2.1
        have r4 := gb2.2
        have hmk := moved_ok (mach_stops m2) (x := x) (y := y) (by omega) (by omega) (by omega) (by omega)
        have hmo : matchOk hs (movedL st x y) off = true := by
          unfold matchOk
          rw [m1, allB_P]
          simp only [pointsB, hmk, inB, movedL_len, Bool.true_and, Bool.and_eq_true, decide_eq_true_eq]
          omega
        have k34 : ∀ h, Cl (dX c16) 34 [.agg [ca, .int .i64 off], slN ((movedL st x y).map ptC.enc)] h (.ret (matchR (matchS off hs (movedL st x y))) h none) := fun h => by
          have : Cl (dX c16) 34 [.agg [ca, .int .i64 off], slN ((movedL st x y).map ptC.enc)] h (.ret (matchF hs (movedL st x y) off) h none) := Cl.intr (g := pureFn sp34) rfl (by simp [pureFn, AV.pur, AV.purL, sl_pur v1, sl_pur hmv, sp34, v1, hmv])
          unfold matchF at this
          rw [if_pos hmo] at this
          exact this
        have om := sl_out hmv
        have hgd := good_def off hs st ⟨x, y⟩
        have hg3 := fun e => sure_three (G := goodB off hs st) r1 r2 r3 r4 e
        have hg1 := fun e => sure_one (G := goodB off hs st) r1 r2 r3 r4 e
        rw [← sure_at (goodB off hs st) a b k] at hg3 hg1
        rw [hgd] at hg3 hg1
        obtain ⟨gn1, gn2, gn3⟩ := gauge_is (sureAt (goodB off hs st) a b)
        have gk2 := gn2 k (by omega)
        have hwv : sureAt (goodB off hs st) a b k = 1 ∨ sureAt (goodB off hs st) a b k = 2 ∨ sureAt (goodB off hs st) a b k = 3 := by rw [sure_at]; exact sure_val _ _ _
        generalize hn : gaugeN (sureAt (goodB off hs st) a b) = n at *
        have gk3 : k = n + 1 → sureAt (goodB off hs st) a b k ≠ 3 := fun e => by rw [e]; exact gn3 (by omega)
        generalize sureAt (goodB off hs st) a b k = w at *
        generalize matchS off hs (movedL st x y) = ms at *
        have hpos : (decide ((k : Int) ≤ (n : Int)) = true ∧ ((k : Int) == (n : Int) + 1) = false ∧ w = 3) ∨ (decide ((k : Int) ≤ (n : Int)) = false ∧ ((k : Int) == (n : Int) + 1) = true ∧ w ≠ 3) ∨ (decide ((k : Int) ≤ (n : Int)) = false ∧ ((k : Int) == (n : Int) + 1) = false) := by
          rcases Nat.lt_trichotomy k (n + 1) with q | q | q
          · refine .inl ⟨decide_eq_true (by omega), beq_eq_false_iff_ne.2 (by omega), gk2 (by omega)⟩
          · exact .inr (.inl ⟨decide_eq_false (by omega), by simp; omega, gk3 q⟩)
          · exact .inr (.inr ⟨decide_eq_false (by omega), beq_eq_false_iff_ne.2 (by omega)⟩)
        have hres : ∃ v o e, matchR ms = .tuple [v, o, .int .i64 e] ∧ outV (some v) = some v ∧ outV (some o) = some o ∧ ((e = 0 ∧ ms.isSome = true) ∨ (e = 5 ∧ ms.isSome = false)) := by
          cases ms with
          | none => exact ⟨_, _, 5, rfl, rfl, rfl, .inr ⟨rfl, rfl⟩⟩
          | some m =>
            obtain ⟨t, o⟩ := m
            exact ⟨_, _, 0, rfl, rfl, (slN_nats o).1, .inl ⟨rfl, rfl⟩⟩
        obtain ⟨v, o, e, hmr, ov, oo, he⟩ := hres
        rw [hmr] at k34
        have hcase : (w = 3 ∧ e = 0 ∧ ((decide ((k : Int) ≤ (n : Int)) = true ∧ ((k : Int) == (n : Int) + 1) = false) ∨ (decide ((k : Int) ≤ (n : Int)) = false ∧ ((k : Int) == (n : Int) + 1) = false))) ∨
            ((w = 1 ∧ e = 5 ∨ w = 2 ∧ e = 0 ∨ w = 2 ∧ e = 5) ∧ ((decide ((k : Int) ≤ (n : Int)) = false ∧ ((k : Int) == (n : Int) + 1) = true) ∨ (decide ((k : Int) ≤ (n : Int)) = false ∧ ((k : Int) == (n : Int) + 1) = false))) := by
          rcases hwv with rfl | rfl | rfl
          · have := hg1 rfl
            right
            refine ⟨.inl ⟨rfl, ?_⟩, ?_⟩
            · rcases he with ⟨_, q⟩ | ⟨q, _⟩
              · rw [this] at q; cases q
              · exact q
            · rcases hpos with ⟨_, _, q⟩ | ⟨q1, q2, _⟩ | q
              · cases q
              · exact .inl ⟨q1, q2⟩
              · exact .inr q
          · right
            refine ⟨?_, ?_⟩
            · rcases he with ⟨q, _⟩ | ⟨q, _⟩
              · exact .inr (.inl ⟨rfl, q⟩)
              · exact .inr (.inr ⟨rfl, q⟩)
            · rcases hpos with ⟨_, _, q⟩ | ⟨q1, q2, _⟩ | q
              · cases q
              · exact .inl ⟨q1, q2⟩
              · exact .inr q
          · have := hg3 rfl
            left
            refine ⟨rfl, ?_, ?_⟩
            · rcases he with ⟨q, _⟩ | ⟨_, q⟩
              · exact q
              · rw [this] at q; cases q
            · rcases hpos with ⟨q1, q2, _⟩ | ⟨_, _, q⟩ | q
              · exact .inl ⟨q1, q2⟩
              · exact absurd rfl q
              · exact .inr q
        have d1 : decide ((n : Int) < 0) = false := decide_eq_false (by omega)
        have d2 : decide ((n : Int) > 12) = false := decide_eq_false (by omega)
        have d3 : IntKind.i64.wrap ((n : Int) + 1) = (n : Int) + 1 := wrap_small (by omega) (by omega)
        have w11 : decide ((1 : Int) < 1) = false := rfl
        have w13 : decide ((1 : Int) > 3) = false := rfl
        have w21 : decide ((2 : Int) < 1) = false := rfl
        have w23 : decide ((2 : Int) > 3) = false := rfl
        have w31 : decide ((3 : Int) < 1) = false := rfl
        have w33 : decide ((3 : Int) > 3) = false := rfl
        have u33 : ((3 : Int) != 3) = false := rfl
        have u13 : ((1 : Int) != 3) = true := rfl
        have u23 : ((2 : Int) != 3) = true := rfl
        have u31 : ((3 : Int) != 1) = true := rfl
        have u11 : ((1 : Int) != 1) = false := rfl
        have u21 : ((2 : Int) != 1) = true := rfl
        have s33 : ((3 : Int) == 3) = true := rfl
        have s13 : ((1 : Int) == 3) = false := rfl
        have s23 : ((2 : Int) == 3) = false := rfl
        rw [m1] at k31
        rw [m2] at k71
        rw [m4] at k72
        rw [m5] at k41
        generalize slN ((movedL st x y).map ptC.enc) = mw at *
        clear hc hl0 hr hl hl2 hp1 hp2 hp3 hp4 v1 v2 v3 v4 v5 K38 K70 ga gb gd m1 m2 m4 m5 hf hA ha1 ha2 hB hb1 hb2 hbl htn hlen hms hask hin0 hx hy hmv ga2 gb2 hbd e1 e2 b1 b2 r1 r2 r3 r4 hmk hmo hgd hg3 hg1 gn1 gn2 gn3 gk2 hwv hn gk3 hpos hmr he
        refine ClR.walk (c := _) rfl Tryz.func16 rfl (by kernel_rfl) rfl isRet_fail ?_
        simp only [entryEnv, Nat.reduceAdd, emptyHp]
        rcases hcase with ⟨rfl, rfl, ⟨p1, p2⟩ | ⟨p1, p2⟩⟩ | ⟨⟨rfl, rfl⟩ | ⟨rfl, rfl⟩ | ⟨rfl, rfl⟩, ⟨p1, p2⟩ | ⟨p1, p2⟩⟩
        all_goals (
          repeat' (first | (refine WO1.gud rfl rfl ?_ ?_; exact Z2; simp only [pM, pN, rR, rP]) | refine Y1 ?_ | refine U7 ?_ | refine U8 ?_ | refine U9 ?_ | refine Y2 ?_ | ((first | refine Y3 ?_ | refine Y8 ?_); simp only [tN, bN, eN, true_and]) | (apply U4; exact Z1; exact rfl; simp only [pM, pN, rR, rP]) | (refine J3 rfl rfl ?_ ?_; exact Z2) | (refine J4 rfl rfl ?_ ?_; exact Z2; simp only [pM, pN, rR, rP]) | (apply U3; exact rfl; exact rfl; exact Z1; refine ⟨fun hh => ?_, fun hh => ?_⟩ <;> try simp only [Bool.not_true, Bool.not_false, pM, pN] at hh ⊢) | (apply U6; exact Z1; exact Z1; (focus (simp only [List.nil_append, List.append_nil]; first | exact k38 _ | exact k70 _ | exact k31 _ | exact k71 _ | exact k72 _ | exact k41 _ | exact k73 _ | exact k46 _ | exact k43 _ | exact k74 _ | exact k34 _ | exact k25 _)); simp only [pM, pN, rR, rP]) | (apply U5; exact rfl; exact Z3; simp only [pM, pN, rR, rP]) | (simp only [tP, bP, eP, true_and]) | (refine Y7 ?_; simp only [tR, bR, eR, true_and]) | (refine Y9 ?_; simp only [tX, bS, bO, Nat.reduceBEq, tN, bN]) | (refine Y4 ?_ ?_; exact Z2) | (refine Y5 ?_ ?_; exact Z2) | (apply Y6; exact Z1; refine ⟨fun hh => ?_, fun hh => ?_⟩))
          all_goals simp only [resV_def (X := dX c16) Tryz.func16, Tryz.results16, resultsV, resultV, go_sem, *, Nat.reduceLT, Int.reduceEq, Int.reduceBEq, Int.reduceLE, Int.reduceLT, Nat.reduceAdd, Nat.reduceBEq, Nat.reduceEqDiff, reduceIte, Nat.reduceLeDiff, Nat.reduceMul, Nat.reduceSub, reduceCtorEq, frzRes, dFrz, frzCells, isRet_ret, tupleOf])
    · have hd : measB hs off = false ∨ (measB hs off = true ∧ machB st cx cy wx wy rs = false) ∨ (measB hs off = true ∧ machB st cx cy wx wy rs = true ∧ ((hs.length : Int) != (st.length : Int)) = true) ∨ (measB hs off = true ∧ machB st cx cy wx wy rs = true ∧ ((hs.length : Int) != (st.length : Int)) = false ∧ truthB xs ys = false) ∨ (measB hs off = true ∧ machB st cx cy wx wy rs = true ∧ ((hs.length : Int) != (st.length : Int)) = false ∧ truthB xs ys = true ∧ inB blank 1 12 = false) := by
        by_cases a1 : measB hs off = true
        · by_cases a2 : machB st cx cy wx wy rs = true
          · by_cases a3 : ((hs.length : Int) != (st.length : Int)) = true
            · exact .inr (.inr (.inl ⟨a1, a2, a3⟩))
            · by_cases a4 : truthB xs ys = true
              · by_cases a5 : inB blank 1 12 = true
                · exact absurd ⟨a1, a2, Bool.eq_false_iff.2 a3, a4, a5⟩ hall
                · exact .inr (.inr (.inr (.inr ⟨a1, a2, Bool.eq_false_iff.2 a3, a4, Bool.eq_false_iff.2 a5⟩)))
              · exact .inr (.inr (.inr (.inl ⟨a1, a2, Bool.eq_false_iff.2 a3, Bool.eq_false_iff.2 a4⟩)))
          · exact .inr (.inl ⟨a1, Bool.eq_false_iff.2 a2⟩)
        · exact .inl (Bool.eq_false_iff.2 a1)
      clear hc hl0 hr hl hl2 hp1 hp2 hp3 hp4 v1 v2 v3 v4 v5 K38 K70 ga gb gd hall
      generalize measB hs off = b1 at *
      generalize machB st cx cy wx wy rs = b2 at *
      generalize truthB xs ys = b3 at *
      generalize inB blank 1 12 = b4 at *
      refine ClR.walk (c := _) rfl Tryz.func16 rfl (by kernel_rfl) rfl isRet_fail ?_
      simp only [entryEnv, Nat.reduceAdd, emptyHp]
      rcases hd with rfl | ⟨rfl, rfl⟩ | ⟨rfl, rfl, x3⟩ | ⟨rfl, rfl, x3, rfl⟩ | ⟨rfl, rfl, x3, rfl, rfl⟩
      all_goals (
        repeat' (first | refine Y1 ?_ | refine U7 ?_ | refine U8 ?_ | refine U9 ?_ | refine Y2 ?_ | ((first | refine Y3 ?_ | refine Y8 ?_); simp only [tN, bN, eN, true_and]) | (apply U4; exact Z1; exact rfl; simp only [pM, pN, rR, rP]) | (refine J3 rfl rfl ?_ ?_; exact Z2) | (refine J4 rfl rfl ?_ ?_; exact Z2; simp only [pM, pN, rR, rP]) | (apply U3; exact rfl; exact rfl; exact Z1; refine ⟨fun hh => ?_, fun hh => ?_⟩ <;> try simp only [Bool.not_true, Bool.not_false, pM, pN] at hh ⊢) | (apply U6; exact Z1; exact Z1; (focus (simp only [List.nil_append, List.append_nil]; first | exact k38 _ | exact k70 _ | exact k31 _ | exact k71 _ | exact k72 _ | exact k41 _ | exact k25 _)); simp only [pM, pN, rR, rP]) | (apply U5; exact rfl; exact Z3; simp only [pM, pN, rR, rP]) | (simp only [tP, bP, eP, true_and]) | (refine Y7 ?_; simp only [tR, bR, eR, true_and]) | (refine Y9 ?_; simp only [tX, bS, bO, Nat.reduceBEq, tN, bN]) | (refine Y4 ?_ ?_; exact Z2) | (refine Y5 ?_ ?_; exact Z2) | (apply Y6; exact Z1; refine ⟨fun hh => ?_, fun hh => ?_⟩))
        all_goals simp only [resV_def (X := dX c16) Tryz.func16, Tryz.results16, resultsV, resultV, go_sem, *, Nat.reduceLT, Int.reduceEq, Int.reduceBEq, Int.reduceLE, Int.reduceLT, Nat.reduceAdd, Nat.reduceBEq, Nat.reduceEqDiff, reduceIte, Nat.reduceLeDiff, Nat.reduceMul, Nat.reduceSub, reduceCtorEq, frzRes, dFrz, frzCells, isRet_ret, tupleOf])
  · have hd : (decide ((st.length : Int) ≤ 6) && decide ((rs.length : Int) ≤ 6)) = false ∨ ((decide ((st.length : Int) ≤ 6) && decide ((rs.length : Int) ≤ 6)) = true ∧ (decide ((xs.length : Int) ≤ 15) && decide ((ys.length : Int) ≤ 15)) = false) ∨ ((decide ((st.length : Int) ≤ 6) && decide ((rs.length : Int) ≤ 6)) = true ∧ (decide ((xs.length : Int) ≤ 15) && decide ((ys.length : Int) ≤ 15)) = true ∧ decide ((hs.length : Int) > 6) = true) := by
      by_cases a1 : (decide ((st.length : Int) ≤ 6) && decide ((rs.length : Int) ≤ 6)) = true
      · by_cases a2 : (decide ((xs.length : Int) ≤ 15) && decide ((ys.length : Int) ≤ 15)) = true
        · by_cases a3 : decide ((hs.length : Int) > 6) = true
          · exact .inr (.inr ⟨a1, a2, a3⟩)
          · exact absurd ⟨a1, a2, Bool.eq_false_iff.2 a3⟩ gs
        · exact .inr (.inl ⟨a1, Bool.eq_false_iff.2 a2⟩)
      · exact .inl (Bool.eq_false_iff.2 a1)
    have k38 := K38
    have k70 := K70
    clear hc hl0 hr hl hl2 hp1 hp2 hp3 hp4 K38 K70 gs
    generalize (decide ((st.length : Int) ≤ 6) && decide ((rs.length : Int) ≤ 6)) = s1 at *
    generalize (decide ((xs.length : Int) ≤ 15) && decide ((ys.length : Int) ≤ 15)) = s2 at *
    refine ClR.walk (c := _) rfl Tryz.func16 rfl (by kernel_rfl) rfl isRet_fail ?_
    simp only [entryEnv, Nat.reduceAdd, emptyHp]
    rcases hd with rfl | ⟨rfl, rfl⟩ | ⟨rfl, rfl, y1⟩
    all_goals (
      repeat' (first | refine Y1 ?_ | refine U7 ?_ | refine U8 ?_ | refine U9 ?_ | refine Y2 ?_ | ((first | refine Y3 ?_ | refine Y8 ?_); simp only [tN, bN, eN, true_and]) | (apply U4; exact Z1; exact rfl; simp only [pM, pN, rR, rP]) | (refine J3 rfl rfl ?_ ?_; exact Z2) | (refine J4 rfl rfl ?_ ?_; exact Z2; simp only [pM, pN, rR, rP]) | (apply U3; exact rfl; exact rfl; exact Z1; refine ⟨fun hh => ?_, fun hh => ?_⟩ <;> try simp only [Bool.not_true, Bool.not_false, pM, pN] at hh ⊢) | (apply U6; exact Z1; exact Z1; (focus (simp only [List.nil_append, List.append_nil]; first | exact k38 _ | exact k70 _ | exact k25 _)); simp only [pM, pN, rR, rP]) | (apply U5; exact rfl; exact Z3; simp only [pM, pN, rR, rP]) | (simp only [tP, bP, eP, true_and]) | (refine Y7 ?_; simp only [tR, bR, eR, true_and]) | (refine Y9 ?_; simp only [tX, bS, bO, Nat.reduceBEq, tN, bN]) | (refine Y4 ?_ ?_; exact Z2) | (refine Y5 ?_ ?_; exact Z2) | (apply Y6; exact Z1; refine ⟨fun hh => ?_, fun hh => ?_⟩))
      all_goals simp only [resV_def (X := dX c16) Tryz.func16, Tryz.results16, resultsV, resultV, go_sem, *, Nat.reduceLT, Int.reduceEq, Int.reduceBEq, Int.reduceLE, Int.reduceLT, Nat.reduceAdd, Nat.reduceBEq, Nat.reduceEqDiff, reduceIte, Nat.reduceLeDiff, Nat.reduceMul, Nat.reduceSub, reduceCtorEq, frzRes, dFrz, frzCells, isRet_ret, tupleOf])
end Go.AM
set_option maxRecDepth 100000
namespace Go.AM
open Go Go.Proofs
variable [Keep]
theorem ag33 : isAggT Tryz.prog 33 = true := by simp [isAggT, Tryz.underlying33]
theorem Sh.meas {n : Nat} {xs : List AV} (h : Sh Tryz.prog (n + 4) 33 xs) : ∃ (a : AV) (l : List Pt) (off : Int), xs = [a, .int .i64 off] ∧ isSl a (l.map ptC.enc) := by
  obtain ⟨x1, y1, rfl, h1, x2, y2, rfl, h2, rfl⟩ := Sh.struct Tryz.underlying33 h
  obtain ⟨a, l, rfl, hl⟩ := Sh.pts h1
  obtain ⟨off, rfl⟩ := Sh.i64 h2
  exact ⟨a, l, off, rfl, hl⟩
end Go.AM
set_option maxRecDepth 100000
namespace Go.AM
open Go Go.Proofs
variable [Keep]
theorem ag51 : isAggT Tryz.prog 51 = true := by simp [isAggT, Tryz.underlying51]
theorem ag95 : isAggT Tryz.prog 95 = true := by simp [isAggT, Tryz.underlying95]
theorem Sh.sp {n : Nat} {xs : List AV} (h : Sh Tryz.prog (n + 2) 48 xs) : ∃ p : Sp, xs = [.int .i64 p.lo, .int .i64 p.hi] := by
  obtain ⟨x, y, rfl, h1, x2, y2, rfl, h2, rfl⟩ := Sh.struct Tryz.underlying48 h
  obtain ⟨a, rfl⟩ := Sh.i64 h1
  obtain ⟨b, rfl⟩ := Sh.i64 h2
  exact ⟨⟨a, b⟩, rfl⟩
theorem Sh.rdg {n : Nat} {xs : List AV} (h : Sh Tryz.prog (n + 2) 95 xs) : ∃ p : Rdg, xs = [.int .i64 p.b, .int .i64 p.x, .int .i64 p.y, .int .i64 p.err] := by
  obtain ⟨x, y, rfl, h1, x2, y2, rfl, h2, x3, y3, rfl, h3, x4, y4, rfl, h4, rfl⟩ := Sh.struct Tryz.underlying95 h
  obtain ⟨a, rfl⟩ := Sh.i64 h1
  obtain ⟨b, rfl⟩ := Sh.i64 h2
  obtain ⟨c, rfl⟩ := Sh.i64 h3
  obtain ⟨d, rfl⟩ := Sh.i64 h4
  exact ⟨⟨a, b, c, d⟩, rfl⟩
theorem Sh.rdgs {n : Nat} {xs : List AV} (h : Sh Tryz.prog (n + 3) 49 xs) : ∃ (a : AV) (l : List Rdg), xs = [a] ∧ isSl a (l.map rdgC.enc) :=
  Sh.slice rdgC Tryz.underlying49 (fun xs h => by
    obtain ⟨p, rfl⟩ := Sh.rdg h
    exact ⟨p, by rw [ag95]; rfl⟩) h
theorem Sh.mach {n : Nat} {xs : List AV} (h : Sh Tryz.prog (n + 4) 51 xs) : ∃ (sa ra : AV) (cx cy wx wy : Sp) (st : List Pt) (rs : List Rdg),
    xs = [sa, .int .i64 cx.lo, .int .i64 cx.hi, .int .i64 cy.lo, .int .i64 cy.hi, .int .i64 wx.lo, .int .i64 wx.hi, .int .i64 wy.lo, .int .i64 wy.hi, ra] ∧ isSl sa (st.map ptC.enc) ∧ isSl ra (rs.map rdgC.enc) := by
  obtain ⟨x1, y1, rfl, h1, x2, y2, rfl, h2, x3, y3, rfl, h3, x4, y4, rfl, h4, x5, y5, rfl, h5, x6, y6, rfl, h6, rfl⟩ := Sh.struct Tryz.underlying51 h
  obtain ⟨sa, st, rfl, hs⟩ := Sh.pts h1
  obtain ⟨cx, rfl⟩ := Sh.sp h2
  obtain ⟨cy, rfl⟩ := Sh.sp h3
  obtain ⟨wx, rfl⟩ := Sh.sp h4
  obtain ⟨wy, rfl⟩ := Sh.sp h5
  obtain ⟨ra, rs, rfl, hr⟩ := Sh.rdgs h6
  exact ⟨sa, ra, cx, cy, wx, wy, st, rs, rfl, hs, hr⟩
theorem ag109 : isAggT Tryz.prog 109 = true := by simp [isAggT, Tryz.underlying109]
theorem Sh.ints {n : Nat} {xs : List AV} (h : Sh Tryz.prog (n + 2) 39 xs) : ∃ (a : AV) (l : List Int), xs = [a] ∧ isSl a (l.map intC.enc) :=
  Sh.slice intC Tryz.underlying39 (fun xs h => by
    obtain ⟨i, rfl⟩ := Sh.i64 h
    exact ⟨i, by rw [ag3]; rfl⟩) h
theorem Sh.truth {n : Nat} {xs : List AV} (h : Sh Tryz.prog (n + 3) 109 xs) : ∃ (xa ya : AV) (l r : List Int), xs = [xa, ya] ∧ isSl xa (l.map intC.enc) ∧ isSl ya (r.map intC.enc) := by
  obtain ⟨x1, y1, rfl, h1, x2, y2, rfl, h2, rfl⟩ := Sh.struct Tryz.underlying109 h
  obtain ⟨xa, l, rfl, hl⟩ := Sh.ints h1
  obtain ⟨ya, r, rfl, hr⟩ := Sh.ints h2
  exact ⟨xa, ya, l, r, rfl, hl, hr⟩
end Go.AM
set_option maxRecDepth 100000
namespace Go.AM
open Go Go.Proofs
variable [Keep]
theorem c16_sound (hT : TabK Tryz.prog) : Sound (dX c16) := dX_sound (fun f g h => by
  unfold c16 at h
  split at h
  · cases h; exact F31
  · cases h; exact F34
  · cases h; exact F38
  · cases h; exact F41
  · cases h; exact F43
  · cases h; exact F46
  · cases h; exact F70
  · cases h; exact F71
  · cases h; exact F72
  · cases h; exact F73
  · cases h; exact F74
  · exact (c25_sound hT).intr f g h)
end Go.AM
namespace Go.Proofs.YtlhcjccaimmhgaaGreatDoor
open Go Go.AM Go.ChangeShapes Go.WideShapes Go.ChangeAt Go.RowKit
theorem law16 [Keep] (hT : TabK Tryz.prog) (avs : List AV) (h : ArgsOk Tryz.prog Tryz.f16.params.toList avs) : ∃ X, X.P = Tryz.prog ∧ Sound X ∧ ∃ h', Cl X 16 avs emptyHp (.ret (.bool true) h' none) := by
  rw [Tryz.params16] at h
  rcases h with _ | ⟨k1, _ | ⟨k2, _ | ⟨k3, _ | ⟨k4, _ | _⟩⟩⟩⟩
  obtain ⟨ca, hs, off, rfl, hc⟩ := Sh.meas k1
  obtain ⟨sa, ra, cx, cy, wx, wy, st, rs, rfl, hl0, hr⟩ := Sh.mach k2
  obtain ⟨xa, ya, xs, ys, rfl, hl, hl2⟩ := Sh.truth k3
  obtain ⟨n, rfl⟩ := Sh.i64 k4
  rw [ag33, ag51, ag109, ag3]
  exact ⟨dX c16, rfl, c16_sound hT, (T16 ca sa ra xa ya off n cx cy wx wy hs st rs xs ys hc hl0 hr hl hl2).gives⟩
theorem drillGood_lifted (os : Os) (started : os.Started) (H : Type) (enc : TypeId × Value → H) :
    ReturnsInHanded {} Tryz.checked os 16 .any (fun w args => (Rows.drillGoodSpec.pre enc Tryz.prog Tryz.f16 Rows.drillGoodRow.domain false w args ∧ laidMetH Tryz.prog laidL w) ∧ sizedMet enc Tryz.prog Tryz.f16 (OpenSpec.ofChange Rows.drillGoodSpec) false w args)
      (Rows.drillGoodSpec.post enc Tryz.prog Tryz.f16 false true false false) := by
  refine returnsInHanded_of_change_and (C := Tryz.checked) (X := fun w _ => laidMetH Tryz.prog laidL w) (fun _ _ _ hh h => h.of_heap hh) own started (by kernel_rfl) Tryz.func16
    (ChangeSpec.witness_shaped (enc := enc) (C := Tryz.checked) (os := os) (X := fun w _ => laidMetH Tryz.prog laidL w) false (World.laidAll Tryz.prog os laidL) #[.agg #[.slice none 0 0, .int .i64 0], .agg #[.slice none 0 0, .int .i64 0, .int .i64 0, .int .i64 0, .int .i64 0, .int .i64 0, .int .i64 0, .int .i64 0, .int .i64 0, .slice none 0 0], .agg #[.slice none 0 0, .slice none 0 0], .int .i64 0] 8 (World.laidAll_os _ _ _)
      (World.shaped_of_ZipB (by kernel_rfl) (by kernel_rfl)) (by kernel_rfl) (by kernel_rfl) (by kernel_rfl)
      (by rw [MakeChecks.laidMetH_plain _ _ _ (by kernel_rfl)]; exact laidMet_laidAll _ (by kernel_rfl) (by kernel_rfl))) ?_
  intro W base args ds gs before hval hW _ _ hL _
  exact lawHolds Tryz.func16 (by kernel_rfl) rfl (fun ds hd => by
    match ds, hd with
    | [d1, d2, d3, d4], _ => rfl) (by rw [Tryz.params16]; intro t ht; simp at ht; rcases ht with rfl | rfl | rfl | rfl <;> kernel_rfl) (by rw [Tryz.params16]; intro t ht; simp at ht; rcases ht with rfl | rfl | rfl | rfl <;> exact ⟨by kernel_rfl, of_decide_eq_true (by kernel_rfl)⟩)
    (fun hT avs h => law16 hT avs h) W base args ds gs before hval hW hL
theorem in16 : (Rows.drillGoodRow.inPlace == Tryz.prog.inPlace 16) = true := by kernel_rfl
theorem unf16 : (Rows.drillGoodRow.unfollowed == Tryz.prog.unfollowed 16) = true := by kernel_rfl
theorem rec16 : (Rows.drillGoodRow.recurses == Tryz.prog.recurses 16) = true := by kernel_rfl
theorem nam16 : (Rows.drillGoodRow.named == Tryz.prog.varsNamed 16) = true := by kernel_rfl
theorem closed16 : joinedFacts Tryz.prog 16 Tryz.f16 Rows.drillGoodSpec Rows.drillGoodRow = true := by
  unfold joinedFacts
  rw [enter_ok, lifts_ok, make_ok]
  repeat' (with_reducible apply and_mk)
  all_goals (first | with_reducible exact laidOut | with_reducible exact rowed | with_reducible exact in16 | with_reducible exact unf16 | with_reducible exact rec16 | with_reducible exact nam16 | kernel_rfl)
theorem drillGood_holds : Rows.DrillGoodSaid :=
  OpenClaim.holds_of_wide 16 Tryz.f16 rfl rfl rfl rfl rfl rfl rfl ⟨rfl, rfl, rfl, rfl, rfl⟩ rfl rfl rfl rfl rfl (by kernel_rfl) Tryz.func16 closed16
    (of_decide_eq_true (by kernel_rfl)) (by unfold Func.isWrapper; rw [if_neg (of_decide_eq_false (by kernel_rfl))]; exact ⟨rfl, rfl⟩)
    (fun os started H enc _ => drillGood_lifted os started H enc)
theorem goes16 : false = Rows.drillGoodRow.goesBy Tryz.prog := by kernel_rfl
theorem drillGood_card : Rows.DrillGoodCardSaid :=
  Claim7.holds_tied_plain_at .later [] [.data, .data, .data] true (true, "b61a08fa8ce36e10ae208529fc07d9da226449fa0c1a03ee5c8317728ea357ba") true drillGood_holds (fun _ h => by cases h) (by kernel_rfl) (fun _ h => by cases h) drillGood_row_tie rfl ⟨rfl, rfl⟩ main_ok rfl
    (fun f fn hf hfn => by
      obtain rfl : f = 16 := Option.some.inj ((show Tryz.prog.funcNamed "nacre/nacrelaw02.DrillGood" = some 16 by kernel_rfl).symm.trans hf) |>.symm
      obtain rfl : fn = Tryz.f16 := (Option.some.inj (Tryz.func16.symm.trans hfn)).symm
      exact ⟨looks_ok, fun j t ht => by
        rw [Tryz.params16] at ht
        have hm : t ∈ [33, 51, 109, 3] := by simpa using Array.mem_of_getElem? ht
        have hall : ([33, 51, 109, 3].all fun u => !Tryz.prog.wantsStandIn u) = true := by kernel_rfl
        exact (show Tryz.prog.wantsStandIn t = false by simpa using List.all_eq_true.1 hall t hm)⟩)
    goes16
end Go.Proofs.YtlhcjccaimmhgaaGreatDoor
