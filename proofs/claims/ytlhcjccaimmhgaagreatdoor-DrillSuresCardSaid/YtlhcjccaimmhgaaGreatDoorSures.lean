/-
  DrillSures: for every measure, every machine and every blank the law returns true, and its arguments read behind the call as before. No condition but the row's own: the tables of Go's library that it lists hold what the program's text lays there.
-/
import Derived.Test.YtlhcjccaimmhgaaGreatDoorFnQ
import Derived.Test.YtlhcjccaimmhgaaGreatDoorShared
import Derived.Test.YtlhcjccaimmhgaaGreatDoorFnD
import Derived.Test.YtlhcjccaimmhgaaGreatDoorHeadB
import Derived.Test.YtlhcjccaimmhgaaGreatDoorCards
set_option linter.unusedSectionVars false
set_option linter.unusedVariables false
set_option linter.unusedSimpArgs false
set_option maxRecDepth 100000
namespace Go.AM
open Go Go.Proofs
variable [Keep]
attribute [local irreducible] W WO WO1 WD WQ WT thenQ blockQ endR isRet retK Cl ClR
attribute [local irreducible] matchS boundsS machB measB sureW goodB askOk heldI
noncomputable def c7 : FuncId → Option (List AV → Heap → Option (AV × Heap))
  | 38 => some (pureFn sp38)
  | 43 => some (pureFn sp43)
  | 44 => some (pureFn sp44)
  | 45 => some (pureFn sp45)
  | f => c25 cK f
theorem held_ask (hs st : List Pt) (off : Int) (m p bl : Bool) : heldI hs st off m p bl = if askOk hs st off m bl then (if p then 0 else 7) else 2 := by
  unfold heldI askOk
  have : decide (hs.length = st.length) = decide (st.length = hs.length) := by
    rw [Bool.eq_iff_iff]
    simp
    omega
  rw [this]
set_option maxHeartbeats 8000000 in
theorem T7 (ca sa ra : AV) (off blank : Int) (cx cy wx wy : Sp) (hs st : List Pt) (rs : List Rdg) (hc : isSl ca (hs.map ptC.enc)) (hl : isSl sa (st.map ptC.enc)) (hr : isSl ra (rs.map rdgC.enc)) :
    ClR (dX c7) 7 [.agg [ca, .int .i64 off], .agg [sa, .int .i64 cx.lo, .int .i64 cx.hi, .int .i64 cy.lo, .int .i64 cy.hi, .int .i64 wx.lo, .int .i64 wx.hi, .int .i64 wy.lo, .int .i64 wy.hi, ra], .int .i64 blank] emptyHp (isRet (.bool true)) := by
  have o1 := hc.out
  have o2 := hl.out
  have o3 := hr.out
  have t1 := hc.tup
  have t2 := hl.tup
  have t3 := hr.tup
  have hp1 := hl.pur (enc_pur ptC st)
  have hp2 := hr.pur (enc_pur rdgC rs)
  have ln1 : lenS ca = some hs.length := by rw [hc.len, List.length_map]
  have k25 : ∀ h, Cl (dX c7) 25 [] h (.ret (.bool true) h none) := fun h => K25 rfl h
  have K38 : ∀ h, Cl (dX c7) 38 [.agg [sa, .int .i64 cx.lo, .int .i64 cx.hi, .int .i64 cy.lo, .int .i64 cy.hi, .int .i64 wx.lo, .int .i64 wx.hi, .int .i64 wy.lo, .int .i64 wy.hi, ra]] h (.ret (.bool (decide ((st.length : Int) ≤ 6) && decide ((rs.length : Int) ≤ 6))) h none) := fun h => by
    have h1 := slLen_mk hl
    have h2 := slLen_mk hr
    exact Cl.intr (g := pureFn sp38) rfl (by simp [pureFn, AV.pur, AV.purL, hp1, hp2, sp38, h1, h2])
  by_cases g : (decide ((st.length : Int) ≤ 6) && decide ((rs.length : Int) ≤ 6)) = true ∧ decide ((hs.length : Int) > 6) = false
  · obtain ⟨ga, gb⟩ := g
    have k38 := K38
    rw [ga] at k38
    have g1 := ga
    simp only [Bool.and_eq_true, decide_eq_true_eq] at g1
    have g2 := gb
    simp only [decide_eq_false_iff_not] at g2
    have v1 : slV ptC ca = some hs := slV_mk hc (by unfold maxL; omega)
    have v2 : slV ptC sa = some st := slV_mk hl (by unfold maxL; omega)
    have v3 : slV rdgC ra = some rs := slV_mk hr (by unfold maxL; omega)
    have k43' : ∀ h, Cl (dX c7) 43 [.agg [ca, .int .i64 off], .agg [sa, .int .i64 cx.lo, .int .i64 cx.hi, .int .i64 cy.lo, .int .i64 cy.hi, .int .i64 wx.lo, .int .i64 wx.hi, .int .i64 wy.lo, .int .i64 wy.hi, ra], .int .i64 blank] h (.ret (sureF (askOk hs st off (machB st cx cy wx wy rs) (inB blank 1 12)) (boundsS (ax0 cx wx rs [])) (boundsS (ax1 cy wy rs [])) (goodB off hs st) blank) h none) := fun h => Cl.intr (g := pureFn sp43) rfl (by simp [pureFn, AV.pur, AV.purL, sl_pur v1, hp1, hp2, sp43, v1, v2, v3])
    have k44' : ∀ h, Cl (dX c7) 44 [.agg [ca, .int .i64 off], .agg [sa, .int .i64 cx.lo, .int .i64 cx.hi, .int .i64 cy.lo, .int .i64 cy.hi, .int .i64 wx.lo, .int .i64 wx.hi, .int .i64 wy.lo, .int .i64 wy.hi, ra], .int .i64 blank, .int .i64 1] h (.ret (.int .i64 (heldI hs st off (machB st cx cy wx wy rs) ((boundsS (ax0 cx wx rs [])).isSome && (boundsS (ax1 cy wy rs [])).isSome) (inB blank 1 12))) h none) := fun h => Cl.intr (g := pureFn sp44) rfl (by simp [pureFn, AV.pur, AV.purL, sl_pur v1, hp1, hp2, sp44, v1, v2, v3])
    rw [held_ask] at k44'
    have k45' : ∀ a b, boundsS (ax0 cx wx rs []) = some a → boundsS (ax1 cy wy rs []) = some b → askOk hs st off (machB st cx cy wx wy rs) (inB blank 1 12) = true → ∀ h, Cl (dX c7) 45 [.agg [ca, .int .i64 off], .agg [sa, .int .i64 cx.lo, .int .i64 cx.hi, .int .i64 cy.lo, .int .i64 cy.hi, .int .i64 wx.lo, .int .i64 wx.hi, .int .i64 wy.lo, .int .i64 wy.hi, ra], .int .i64 blank] h (.ret (.int .i64 (sureW (goodB off hs st) (a.getD blank.toNat ⟨0, 0⟩) (b.getD blank.toNat ⟨0, 0⟩))) h none) := fun a b hA hB hok h => Cl.intr (g := pureFn sp45) rfl (by
      simp only [pureFn, AV.pur, AV.purL, sl_pur v1, hp1, hp2, Bool.and_self, if_true, sp45, v1, v2, v3, hA, hB, hok])
    have b20 : ((2 : Int) != 0) = true := rfl
    have b70 : ((7 : Int) != 0) = true := rfl
    have b00 : ((0 : Int) != 0) = false := rfl
    have b22 : ((2 : Int) == 2) = true := rfl
    have b77 : ((7 : Int) == 7) = true := rfl
    have e00 : ((0 : Int) == 0) = true := rfl
    clear hc hl hr hp1 hp2 v1 v2 v3 K38 ga g1 g2
    generalize askOk hs st off (machB st cx cy wx wy rs) (inB blank 1 12) = ok at *
    generalize boundsS (ax0 cx wx rs []) = A at *
    generalize boundsS (ax1 cy wy rs []) = B at *
    refine ClR.walk (c := _) rfl Tryz.func7 rfl (by kernel_rfl) rfl isRet_fail ?_
    simp only [entryEnv, Nat.reduceAdd, emptyHp]
    have hcase : (∃ w e, sureF ok A B (goodB off hs st) blank = .tuple [.int .i64 w, .int .i64 e] ∧ (if ok then (if (A.isSome && B.isSome) then (0 : Int) else 7) else 2) = e ∧ w = 0 ∧ (e == e) = true ∧ (e != 0) = true) ∨ (∃ w, sureF ok A B (goodB off hs st) blank = .tuple [.int .i64 w, .int .i64 0] ∧ (if ok then (if (A.isSome && B.isSome) then (0 : Int) else 7) else 2) = 0 ∧ ∀ h, Cl (dX c7) 45 [.agg [ca, .int .i64 off], .agg [sa, .int .i64 cx.lo, .int .i64 cx.hi, .int .i64 cy.lo, .int .i64 cy.hi, .int .i64 wx.lo, .int .i64 wx.hi, .int .i64 wy.lo, .int .i64 wy.hi, ra], .int .i64 blank] h (.ret (.int .i64 w) h none)) := by
      cases ok with
      | false => exact .inl ⟨0, 2, rfl, rfl, rfl, rfl, rfl⟩
      | true =>
        cases A with
        | none => exact .inl ⟨0, 7, rfl, rfl, rfl, rfl, rfl⟩
        | some a =>
          cases B with
          | none => exact .inl ⟨0, 7, rfl, rfl, rfl, rfl, rfl⟩
          | some b => exact .inr ⟨_, rfl, rfl, k45' a b rfl rfl rfl⟩
    clear k45'
    rcases hcase with ⟨w, e, e1, e2, rfl, x1, x2⟩ | ⟨w, e1, e2, k45⟩
    · rw [e1] at k43'
      rw [e2] at k44'
      have k43 := k43'
      have k44 := k44'
      clear k43' k44' e1 e2
      repeat' (first | refine Y1 ?_ | refine U7 ?_ | refine U8 ?_ | refine U9 ?_ | refine Y2 ?_ | ((first | refine Y3 ?_ | refine Y8 ?_); simp only [tN, bN, eN, true_and]) | (apply U4; exact Z1; exact rfl; simp only [pM, pN, rR, rP]) | (refine J3 rfl rfl ?_ ?_; exact Z2) | (refine J4 rfl rfl ?_ ?_; exact Z2; simp only [pM, pN, rR, rP]) | (apply U3; exact rfl; exact rfl; exact Z1; refine ⟨fun hh => ?_, fun hh => ?_⟩ <;> try simp only [Bool.not_true, Bool.not_false, pM, pN] at hh ⊢) | (apply U6; exact Z1; exact Z1; (focus (simp only [List.nil_append, List.append_nil]; first | exact k38 _ | exact k43 _ | exact k44 _ | exact k25 _)); simp only [pM, pN, rR, rP]) | (apply U5; exact rfl; exact Z3; simp only [pM, pN, rR, rP]) | (simp only [tP, bP, eP, true_and]) | (refine Y7 ?_; simp only [tR, bR, eR, true_and]) | (refine Y9 ?_; simp only [tX, bS, bO, Nat.reduceBEq, tN, bN]) | (refine Y4 ?_ ?_; exact Z2) | (refine Y5 ?_ ?_; exact Z2) | (apply Y6; exact Z1; refine ⟨fun hh => ?_, fun hh => ?_⟩))
      all_goals simp only [resV_def (X := dX c7) Tryz.func7, Tryz.results7, resultsV, resultV, go_sem, *, Nat.reduceLT, Int.reduceEq, Int.reduceBEq, Int.reduceLE, Int.reduceLT, Nat.reduceAdd, Nat.reduceBEq, Nat.reduceEqDiff, reduceIte, Nat.reduceLeDiff, Nat.reduceMul, Nat.reduceSub, reduceCtorEq, frzRes, dFrz, frzCells, isRet_ret, tupleOf]
    · rw [e1] at k43'
      rw [e2] at k44'
      have k43 := k43'
      have k44 := k44'
      have x1 : (w == w) = true := by simp
      clear k43' k44' e1 e2
      repeat' (first | refine Y1 ?_ | refine U7 ?_ | refine U8 ?_ | refine U9 ?_ | refine Y2 ?_ | ((first | refine Y3 ?_ | refine Y8 ?_); simp only [tN, bN, eN, true_and]) | (apply U4; exact Z1; exact rfl; simp only [pM, pN, rR, rP]) | (refine J3 rfl rfl ?_ ?_; exact Z2) | (refine J4 rfl rfl ?_ ?_; exact Z2; simp only [pM, pN, rR, rP]) | (apply U3; exact rfl; exact rfl; exact Z1; refine ⟨fun hh => ?_, fun hh => ?_⟩ <;> try simp only [Bool.not_true, Bool.not_false, pM, pN] at hh ⊢) | (apply U6; exact Z1; exact Z1; (focus (simp only [List.nil_append, List.append_nil]; first | exact k38 _ | exact k43 _ | exact k44 _ | exact k45 _ | exact k25 _)); simp only [pM, pN, rR, rP]) | (apply U5; exact rfl; exact Z3; simp only [pM, pN, rR, rP]) | (simp only [tP, bP, eP, true_and]) | (refine Y7 ?_; simp only [tR, bR, eR, true_and]) | (refine Y9 ?_; simp only [tX, bS, bO, Nat.reduceBEq, tN, bN]) | (refine Y4 ?_ ?_; exact Z2) | (refine Y5 ?_ ?_; exact Z2) | (apply Y6; exact Z1; refine ⟨fun hh => ?_, fun hh => ?_⟩))
      all_goals simp only [resV_def (X := dX c7) Tryz.func7, Tryz.results7, resultsV, resultV, go_sem, *, Nat.reduceLT, Int.reduceEq, Int.reduceBEq, Int.reduceLE, Int.reduceLT, Nat.reduceAdd, Nat.reduceBEq, Nat.reduceEqDiff, reduceIte, Nat.reduceLeDiff, Nat.reduceMul, Nat.reduceSub, reduceCtorEq, frzRes, dFrz, frzCells, isRet_ret, tupleOf]
  · have hd : (decide ((st.length : Int) ≤ 6) && decide ((rs.length : Int) ≤ 6)) = false ∨ ((decide ((st.length : Int) ≤ 6) && decide ((rs.length : Int) ≤ 6)) = true ∧ decide ((hs.length : Int) > 6) = true) := by
      by_cases ga : (decide ((st.length : Int) ≤ 6) && decide ((rs.length : Int) ≤ 6)) = true
      · by_cases gb : decide ((hs.length : Int) > 6) = true
        · exact .inr ⟨ga, gb⟩
        · exact absurd ⟨ga, Bool.eq_false_iff.2 gb⟩ g
      · exact .inl (Bool.eq_false_iff.2 ga)
    have k38 := K38
    clear hc hl hr hp1 hp2 K38 g
    generalize (decide ((st.length : Int) ≤ 6) && decide ((rs.length : Int) ≤ 6)) = sl at *
    refine ClR.walk (c := _) rfl Tryz.func7 rfl (by kernel_rfl) rfl isRet_fail ?_
    simp only [entryEnv, Nat.reduceAdd, emptyHp]
    rcases hd with rfl | ⟨rfl, y1⟩
    all_goals (
      repeat' (first | refine Y1 ?_ | refine U7 ?_ | refine U8 ?_ | refine U9 ?_ | refine Y2 ?_ | ((first | refine Y3 ?_ | refine Y8 ?_); simp only [tN, bN, eN, true_and]) | (apply U4; exact Z1; exact rfl; simp only [pM, pN, rR, rP]) | (refine J3 rfl rfl ?_ ?_; exact Z2) | (refine J4 rfl rfl ?_ ?_; exact Z2; simp only [pM, pN, rR, rP]) | (apply U3; exact rfl; exact rfl; exact Z1; refine ⟨fun hh => ?_, fun hh => ?_⟩ <;> try simp only [Bool.not_true, Bool.not_false, pM, pN] at hh ⊢) | (apply U6; exact Z1; exact Z1; (focus (simp only [List.nil_append, List.append_nil]; first | exact k38 _ | exact k25 _)); simp only [pM, pN, rR, rP]) | (apply U5; exact rfl; exact Z3; simp only [pM, pN, rR, rP]) | (simp only [tP, bP, eP, true_and]) | (refine Y7 ?_; simp only [tR, bR, eR, true_and]) | (refine Y9 ?_; simp only [tX, bS, bO, Nat.reduceBEq, tN, bN]) | (refine Y4 ?_ ?_; exact Z2) | (refine Y5 ?_ ?_; exact Z2) | (apply Y6; exact Z1; refine ⟨fun hh => ?_, fun hh => ?_⟩))
      all_goals simp only [resV_def (X := dX c7) Tryz.func7, Tryz.results7, resultsV, resultV, go_sem, *, Nat.reduceLT, Int.reduceEq, Int.reduceBEq, Int.reduceLE, Int.reduceLT, Nat.reduceAdd, Nat.reduceBEq, Nat.reduceEqDiff, reduceIte, Nat.reduceLeDiff, Nat.reduceMul, Nat.reduceSub, reduceCtorEq, frzRes, dFrz, frzCells, isRet_ret, tupleOf])
end Go.AM
set_option maxRecDepth 100000
namespace Go.AM
open Go Go.Proofs
variable [Keep]
theorem ag33 : isAggT Tryz.prog 33 = true := by simp [isAggT, Tryz.underlying33]
theorem Sh.meas {n : Nat} {xs : List AV} (h : Sh Tryz.prog (n + 4) 33 xs) : ∃ (a : AV) (l : List Pt) (off : Int), xs = [a, .int .i64 off] ∧ isSl a (l.map ptC.enc) := by
  obtain ⟨x1, y1, rfl, h1, x2, y2, rfl, h2, rfl⟩ := Sh.struct Tryz.underlying33 h
  obtain ⟨a, l, rfl, hl⟩ := Sh.pts h1
  obtain ⟨off, rfl⟩ := Sh.i64 h2
  exact ⟨a, l, off, rfl, hl⟩
end Go.AM
set_option maxRecDepth 100000
namespace Go.AM
open Go Go.Proofs
variable [Keep]
theorem ag51 : isAggT Tryz.prog 51 = true := by simp [isAggT, Tryz.underlying51]
theorem ag95 : isAggT Tryz.prog 95 = true := by simp [isAggT, Tryz.underlying95]
theorem Sh.sp {n : Nat} {xs : List AV} (h : Sh Tryz.prog (n + 2) 48 xs) : ∃ p : Sp, xs = [.int .i64 p.lo, .int .i64 p.hi] := by
  obtain ⟨x, y, rfl, h1, x2, y2, rfl, h2, rfl⟩ := Sh.struct Tryz.underlying48 h
  obtain ⟨a, rfl⟩ := Sh.i64 h1
  obtain ⟨b, rfl⟩ := Sh.i64 h2
  exact ⟨⟨a, b⟩, rfl⟩
theorem Sh.rdg {n : Nat} {xs : List AV} (h : Sh Tryz.prog (n + 2) 95 xs) : ∃ p : Rdg, xs = [.int .i64 p.b, .int .i64 p.x, .int .i64 p.y, .int .i64 p.err] := by
  obtain ⟨x, y, rfl, h1, x2, y2, rfl, h2, x3, y3, rfl, h3, x4, y4, rfl, h4, rfl⟩ := Sh.struct Tryz.underlying95 h
  obtain ⟨a, rfl⟩ := Sh.i64 h1
  obtain ⟨b, rfl⟩ := Sh.i64 h2
  obtain ⟨c, rfl⟩ := Sh.i64 h3
  obtain ⟨d, rfl⟩ := Sh.i64 h4
  exact ⟨⟨a, b, c, d⟩, rfl⟩
theorem Sh.rdgs {n : Nat} {xs : List AV} (h : Sh Tryz.prog (n + 3) 49 xs) : ∃ (a : AV) (l : List Rdg), xs = [a] ∧ isSl a (l.map rdgC.enc) :=
  Sh.slice rdgC Tryz.underlying49 (fun xs h => by
    obtain ⟨p, rfl⟩ := Sh.rdg h
    exact ⟨p, by rw [ag95]; rfl⟩) h
theorem Sh.mach {n : Nat} {xs : List AV} (h : Sh Tryz.prog (n + 4) 51 xs) : ∃ (sa ra : AV) (cx cy wx wy : Sp) (st : List Pt) (rs : List Rdg),
    xs = [sa, .int .i64 cx.lo, .int .i64 cx.hi, .int .i64 cy.lo, .int .i64 cy.hi, .int .i64 wx.lo, .int .i64 wx.hi, .int .i64 wy.lo, .int .i64 wy.hi, ra] ∧ isSl sa (st.map ptC.enc) ∧ isSl ra (rs.map rdgC.enc) := by
  obtain ⟨x1, y1, rfl, h1, x2, y2, rfl, h2, x3, y3, rfl, h3, x4, y4, rfl, h4, x5, y5, rfl, h5, x6, y6, rfl, h6, rfl⟩ := Sh.struct Tryz.underlying51 h
  obtain ⟨sa, st, rfl, hs⟩ := Sh.pts h1
  obtain ⟨cx, rfl⟩ := Sh.sp h2
  obtain ⟨cy, rfl⟩ := Sh.sp h3
  obtain ⟨wx, rfl⟩ := Sh.sp h4
  obtain ⟨wy, rfl⟩ := Sh.sp h5
  obtain ⟨ra, rs, rfl, hr⟩ := Sh.rdgs h6
  exact ⟨sa, ra, cx, cy, wx, wy, st, rs, rfl, hs, hr⟩
end Go.AM
set_option maxRecDepth 100000
namespace Go.AM
open Go Go.Proofs
variable [Keep]
theorem c7_sound (hT : TabK Tryz.prog) : Sound (dX c7) := dX_sound (fun f g h => by
  unfold c7 at h
  split at h
  · cases h; exact F38
  · cases h; exact F43
  · cases h; exact F44
  · cases h; exact F45
  · exact (c25_sound hT).intr f g h)
end Go.AM
namespace Go.Proofs.YtlhcjccaimmhgaaGreatDoor
open Go Go.AM Go.ChangeShapes Go.WideShapes Go.ChangeAt Go.RowKit
theorem law7 [Keep] (hT : TabK Tryz.prog) (avs : List AV) (h : ArgsOk Tryz.prog Tryz.f7.params.toList avs) : ∃ X, X.P = Tryz.prog ∧ Sound X ∧ ∃ h', Cl X 7 avs emptyHp (.ret (.bool true) h' none) := by
  rw [Tryz.params7] at h
  rcases h with _ | ⟨k1, _ | ⟨k2, _ | ⟨k3, _ | _⟩⟩⟩
  obtain ⟨ca, hs, off, rfl, hc⟩ := Sh.meas k1
  obtain ⟨sa, ra, cx, cy, wx, wy, st, rs, rfl, hl, hr⟩ := Sh.mach k2
  obtain ⟨n, rfl⟩ := Sh.i64 k3
  rw [ag33, ag51, ag3]
  exact ⟨dX c7, rfl, c7_sound hT, (T7 ca sa ra off n cx cy wx wy hs st rs hc hl hr).gives⟩
theorem drillSures_lifted (os : Os) (started : os.Started) (H : Type) (enc : TypeId × Value → H) :
    ReturnsInHanded {} Tryz.checked os 7 .any (fun w args => (Rows.drillSuresSpec.pre enc Tryz.prog Tryz.f7 Rows.drillSuresRow.domain false w args ∧ laidMetH Tryz.prog laidL w) ∧ sizedMet enc Tryz.prog Tryz.f7 (OpenSpec.ofChange Rows.drillSuresSpec) false w args)
      (Rows.drillSuresSpec.post enc Tryz.prog Tryz.f7 false true false false) := by
  refine returnsInHanded_of_change_and (C := Tryz.checked) (X := fun w _ => laidMetH Tryz.prog laidL w) (fun _ _ _ hh h => h.of_heap hh) own started (by kernel_rfl) Tryz.func7
    (ChangeSpec.witness_shaped (enc := enc) (C := Tryz.checked) (os := os) (X := fun w _ => laidMetH Tryz.prog laidL w) false (World.laidAll Tryz.prog os laidL) #[.agg #[.slice none 0 0, .int .i64 0], .agg #[.slice none 0 0, .int .i64 0, .int .i64 0, .int .i64 0, .int .i64 0, .int .i64 0, .int .i64 0, .int .i64 0, .int .i64 0, .slice none 0 0], .int .i64 0] 8 (World.laidAll_os _ _ _)
      (World.shaped_of_ZipB (by kernel_rfl) (by kernel_rfl)) (by kernel_rfl) (by kernel_rfl) (by kernel_rfl)
      (by rw [MakeChecks.laidMetH_plain _ _ _ (by kernel_rfl)]; exact laidMet_laidAll _ (by kernel_rfl) (by kernel_rfl))) ?_
  intro W base args ds gs before hval hW _ _ hL _
  exact lawHolds Tryz.func7 (by kernel_rfl) rfl (fun ds hd => by
    match ds, hd with
    | [d1, d2, d3], _ => rfl) (by rw [Tryz.params7]; intro t ht; simp at ht; rcases ht with rfl | rfl | rfl <;> kernel_rfl) (by rw [Tryz.params7]; intro t ht; simp at ht; rcases ht with rfl | rfl | rfl <;> exact ⟨by kernel_rfl, of_decide_eq_true (by kernel_rfl)⟩)
    (fun hT avs h => law7 hT avs h) W base args ds gs before hval hW hL
theorem in7 : (Rows.drillSuresRow.inPlace == Tryz.prog.inPlace 7) = true := by kernel_rfl
theorem unf7 : (Rows.drillSuresRow.unfollowed == Tryz.prog.unfollowed 7) = true := by kernel_rfl
theorem rec7 : (Rows.drillSuresRow.recurses == Tryz.prog.recurses 7) = true := by kernel_rfl
theorem nam7 : (Rows.drillSuresRow.named == Tryz.prog.varsNamed 7) = true := by kernel_rfl
theorem closed7 : joinedFacts Tryz.prog 7 Tryz.f7 Rows.drillSuresSpec Rows.drillSuresRow = true := by
  unfold joinedFacts
  rw [enter_ok, lifts_ok, make_ok]
  repeat' (with_reducible apply and_mk)
  all_goals (first | with_reducible exact laidOut | with_reducible exact rowed | with_reducible exact in7 | with_reducible exact unf7 | with_reducible exact rec7 | with_reducible exact nam7 | kernel_rfl)
theorem drillSures_holds : Rows.DrillSuresSaid :=
  OpenClaim.holds_of_wide 7 Tryz.f7 rfl rfl rfl rfl rfl rfl rfl ⟨rfl, rfl, rfl, rfl, rfl⟩ rfl rfl rfl rfl rfl (by kernel_rfl) Tryz.func7 closed7
    (of_decide_eq_true (by kernel_rfl)) (by unfold Func.isWrapper; rw [if_neg (of_decide_eq_false (by kernel_rfl))]; exact ⟨rfl, rfl⟩)
    (fun os started H enc _ => drillSures_lifted os started H enc)
theorem goes7 : false = Rows.drillSuresRow.goesBy Tryz.prog := by kernel_rfl
theorem drillSures_card : Rows.DrillSuresCardSaid :=
  Claim7.holds_tied_plain_at .later [] [.data, .data, .data] true (true, "b61a08fa8ce36e10ae208529fc07d9da226449fa0c1a03ee5c8317728ea357ba") true drillSures_holds (fun _ h => by cases h) (by kernel_rfl) (fun _ h => by cases h) drillSures_row_tie rfl ⟨rfl, rfl⟩ main_ok rfl
    (fun f fn hf hfn => by
      obtain rfl : f = 7 := Option.some.inj ((show Tryz.prog.funcNamed "nacre/nacrelaw02.DrillSures" = some 7 by kernel_rfl).symm.trans hf) |>.symm
      obtain rfl : fn = Tryz.f7 := (Option.some.inj (Tryz.func7.symm.trans hfn)).symm
      exact ⟨looks_ok, fun j t ht => by
        rw [Tryz.params7] at ht
        have hm : t ∈ [33, 51, 3] := by simpa using Array.mem_of_getElem? ht
        have hall : ([33, 51, 3].all fun u => !Tryz.prog.wantsStandIn u) = true := by kernel_rfl
        exact (show Tryz.prog.wantsStandIn t = false by simpa using List.all_eq_true.1 hall t hm)⟩)
    goes7
end Go.Proofs.YtlhcjccaimmhgaaGreatDoor
