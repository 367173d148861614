/-
  A part of the proof: contracts of functions.
-/
import Derived.Test.YtkpbdjpekjdhcaaGreatDoorSAU
import Derived.Test.YtkpbdjpekjdhcaaGreatDoorSAF
set_option linter.unusedSectionVars false
set_option linter.unusedVariables false
set_option linter.unusedSimpArgs false
set_option maxRecDepth 100000
namespace Go.AM
open Go Go.Proofs
variable [Keep]
attribute [local irreducible] W WO WO1 WD WQ WT thenQ blockQ endR isRet retK Cl ClR
open Go.TX (Rm Fa Ha Hs textH smallH readP readQ shortH isDig dig_bds)
attribute [local irreducible] houseB textH readP readQ
noncomputable def c9 : FuncId → Option (List AV → Heap → Option (AV × Heap))
  | 21 => some (pureFn sp21S)
  | 22 => some (pureFn sp22)
  | 24 => some (flatFnD sp82)
  | 40 => some (flatFnD sp40)
  | 41 => some (pureFn sp41)
  | 43 => some (flatFnD sp43)
  | _ => none
theorem lss48 (b : UInt8) (h : isDig b = true) : decide (((b.toNat : Nat) : Int) < 48) = false ∧ decide (((b.toNat : Nat) : Int) > 57) = false := by
  have := dig_bds h
  simp only [decide_eq_false_iff_not]
  omega
theorem lss48n (b : UInt8) (h : isDig b = false) : decide (((b.toNat : Nat) : Int) < 48) = true ∨ (decide (((b.toNat : Nat) : Int) < 48) = false ∧ decide (((b.toNat : Nat) : Int) > 57) = true) := by
  unfold isDig at h
  rw [Bool.and_eq_false_iff] at h
  simp only [decide_eq_false_iff_not, decide_eq_true_eq] at h ⊢
  omega
theorem elems_row {hp : Heap} {id n sz : Nat} {l L : List AV} (h : hp.get id = some (.rw sz L)) (hl : L = l) (hn : n = l.length) : hp.elems (.row id 0 n) = some l := by
  subst hl
  subst hn
  simp [Heap.elems, h]
def dRwsW : FuncId → List Tmp
  | 9 => [67]
  | f => dRws f
noncomputable def dXW (intr : FuncId → Option (List AV → Heap → Option (AV × Heap))) : Ctx := { P := Tryz.prog, hts := dHts, rws := dRwsW, frz := dFrz, intr }
theorem dXW_sound {intr : FuncId → Option (List AV → Heap → Option (AV × Heap))} (h : ∀ f g, intr f = some g → IntrFn Tryz.prog f g) : Sound (dXW intr) := ⟨d_num, d_mix, h⟩
theorem dXW_P (intr : FuncId → Option (List AV → Heap → Option (AV × Heap))) : (dXW intr).P = Tryz.prog := rfl
theorem dXW_hts (intr : FuncId → Option (List AV → Heap → Option (AV × Heap))) : (dXW intr).hts = dHts := rfl
theorem dXW_rws (intr : FuncId → Option (List AV → Heap → Option (AV × Heap))) : (dXW intr).rws = dRwsW := rfl
theorem dXW_frz (intr : FuncId → Option (List AV → Heap → Option (AV × Heap))) : (dXW intr).frz = dFrz := rfl
attribute [go_sem] dXW_P dXW_hts dXW_rws dXW_frz
theorem c9_sound (hT : TabK Tryz.prog) : Sound (dXW c9) := dXW_sound (fun f g h => by
  unfold c9 at h
  split at h
  · cases h; exact F21S
  · cases h; exact F22 hT
  · cases h; exact F24D
  · cases h; exact F40 hT
  · cases h; exact F41 hT
  · cases h; exact F43
  · cases h)
set_option maxHeartbeats 8000000 in
theorem T9 (ra fa oa ha : AV) (m : Hs) (at_ digit : Int) (v1 : isSl ra (m.rooms.map rmC.enc)) (v2 : isSl fa (m.fans.map faC.enc)) (v3 : isSl oa (m.op.map intC.enc)) (v4 : isSl ha (m.hands.map haC.enc)) :
    ClR (dXW c9) 9 [.agg [.int .i64 m.hours, ra, fa, oa, ha], .int .i64 at_, .int .i64 digit] emptyHp (isRet (.bool true)) := by
  have o1 := v1.out
  have o2 := v2.out
  have o3 := v3.out
  have o4 := v4.out
  have k22 : ∀ h, Cl (dXW c9) 22 [] h (.ret (.bool true) h none) := fun h => K22 rfl h
  have k21 : ∀ h, Cl (dXW c9) 21 [.agg [.int .i64 m.hours, ra, fa, oa, ha]] h (.ret (.bool (shortB m)) h none) := fun h => by
    have h1 := slLen_mk v1
    have h2 := slLen_mk v2
    have h3 := slLen_mk v3
    have h4 := slLen_mk v4
    rw [List.length_map] at h1 h2 h3 h4
    have p1 := v1.pur (enc_pur rmC _)
    have p2 := v2.pur (enc_pur faC _)
    have p3 := v3.pur (enc_pur intC _)
    have p4 := v4.pur (enc_pur haC _)
    exact Cl.intr (g := pureFn sp21S) rfl (by simp [pureFn, AV.pur, AV.purL, p1, p2, p3, p4, sp21S, h1, h2, h3, h4, shortB])
  cases g : shortB m with
  | true =>
    rw [g] at k21
    unfold shortB at g
    simp only [Bool.and_eq_true, decide_eq_true_eq] at g
    obtain ⟨⟨⟨g1, g2⟩, g3⟩, g4⟩ := g
    have w1 := slV_mk v1 (by unfold maxL; omega)
    have w2 := slV_mk v2 (by unfold maxL; omega)
    have w3 := slV_mk v3 (by unfold maxL; omega)
    have w4 := slV_mk v4 (by unfold maxL; omega)
    have k24 := fun h => K24 (X := dXW c9) rfl (SeeV.of w1 h) (SeeV.of w2 h) (SeeV.of w3 h) (SeeV.of w4 h)
    have k40 := fun h => K40 (X := dXW c9) rfl (SeeV.of w1 h) (SeeV.of w2 h) (SeeV.of w3 h) (SeeV.of w4 h)
    by_cases hbd : houseB m = true ∧ 0 ≤ digit ∧ digit ≤ 9
    · obtain ⟨hb, hd0, hd9⟩ := hbd
      rw [hb] at k24
      rw [pr_yes hb] at k40
      have k43z := fun h => K43z (X := dXW c9) rfl h
      have c1 : decide (digit < 0) = false := by simp only [decide_eq_false_iff_not]; omega
      have c2 : decide (digit > 9) = false := by simp only [decide_eq_false_iff_not]; omega
      have q0 : ((0 : Int) != 0) = false := rfl
      have q1 : ((4 : Int) == 4) = true := rfl
      have tt : (true && true) = true := rfl
      have hsp := fun i c d hi hd hc hne => TX.spoilt (house_ok hb).small (ho_short (house_ok hb)) (i := i) (c := c) (d := d) hi hd hc hne
      have hsh := hs_len hb
      have HB := Lib.hid hb
      clear v1 v2 v3 v4 w1 w2 w3 w4 hb g1 g2 g3 g4
      generalize textH m = tx at *
      by_cases hat : 0 ≤ at_ ∧ at_ < (tx.length : Int)
      · obtain ⟨j, rfl⟩ : ∃ j : Nat, at_ = j := ⟨at_.toNat, by omega⟩
        have hj : j < tx.length := by omega
        have e1 : decide (((j : Nat) : Int) < 0) = false := by simp
        have e2 : decide (((j : Nat) : Int) ≥ (tx.length : Int)) = false := by simp only [decide_eq_false_iff_not]; omega
        obtain ⟨b, hb'⟩ := get_some hj
        have hij := idx_j hj
        by_cases hdg : isDig b = true
        · obtain ⟨e3, e4⟩ := lss48 b hdg
          have hbb := dig_bds hdg
          have ws : IntKind.u8.wrap ((b.toNat : Int) - 48) = ((b.toNat - 48 : Nat) : Int) := by
            rw [show (b.toNat : Int) - 48 = ((b.toNat - 48 : Nat) : Int) by omega]
            exact u8_wrap (by omega)
          have wc : IntKind.i64.wrap ((b.toNat - 48 : Nat) : Int) = ((b.toNat - 48 : Nat) : Int) := wrap_small (by omega) (by omega)
          by_cases hsame : ((b.toNat - 48 : Nat) : Int) = digit
          · have e5 : (((b.toNat - 48 : Nat) : Int) == digit) = true := by rw [beq_iff_eq]; exact hsame
            clear hsp hbb hdg hsh hat hj hd0 hd9 hsame
            refine ClR.walk (c := _) rfl Tryz.func9 rfl (by kernel_rfl) rfl isRet_fail ?_
            simp only [entryEnv, Nat.reduceAdd, emptyHp]
            repeat' (first | refine goS ?_ | (apply U6; exact Z1; exact Z1; (focus (simp only [List.nil_append, List.append_nil]; first | exact k22 _ | exact k21 _ | exact k24 _ | exact k40 _)); simp only [pM, pN, rR, rP]) | refine go2 (fun hh => ?_) (fun hh => ?_) | fail)
            all_goals simp only [resV_def (X := dXW c9) Tryz.func9, Tryz.results9, resultsV, resultV, go_sem, *, Nat.reduceLT, Int.reduceEq, Int.reduceBEq, Int.reduceLE, Int.reduceLT, Nat.reduceAdd, Nat.reduceBEq, Nat.reduceEqDiff, reduceIte, Nat.reduceLeDiff, Nat.reduceMul, Nat.reduceSub, reduceCtorEq, frzRes, dFrz, frzCells, isRet_ret, tupleOf]
          · have e5 : (((b.toNat - 48 : Nat) : Int) == digit) = false := by rw [beq_eq_false_iff_ne]; exact hsame
            obtain ⟨dn, rfl⟩ : ∃ dn : Nat, digit = dn := ⟨digit.toNat, by omega⟩
            obtain ⟨cd, hcd⟩ : ∃ cd : UInt8, cd.toNat = 48 + dn := ⟨UInt8.ofNat (48 + dn), by rw [UInt8.toNat_ofNat']; omega⟩
            have wd : IntKind.i64.wrap (48 + ((dn : Nat) : Int)) = ((cd.toNat : Nat) : Int) := by rw [wrap_small (by omega) (by omega)]; omega
            have we : IntKind.u8.wrap ((cd.toNat : Nat) : Int) = ((cd.toNat : Nat) : Int) := u8_wrap (by omega)
            have hcdd : isDig cd = true := by
              unfold isDig
              simp only [Bool.and_eq_true, decide_eq_true_eq]
              omega
            have hrd := hsp j cd b hb' hdg hcdd (fun e => hsame (by rw [← e, hcd]; omega))
            have k41 := fun h => K41 (X := dXW c9) rfl (tx.set j cd) (by rw [List.length_set]; omega) h
            rw [rd_none (by rw [List.length_set]; omega) hrd] at k41
            unfold zeroH at k41
            have hset : (tx.map fun b => AV.int .u8 b.toNat).set j (.int .u8 ↑cd.toNat) = (tx.set j cd).map fun b => AV.int .u8 b.toNat := by rw [List.map_set]
            have hgl : (tx.map fun b => AV.int .u8 b.toNat)[j]? = some (.int .u8 ↑b.toNat) := by simp [hb']
            have hia : indexAddrV Tryz.prog ⟨1, (Mp.nil : Mp Blk).set 0 (.rw 1 (tx.map fun b => AV.int .u8 b.toNat))⟩ 71 (.row 0 0 tx.length) (.int .i64 ↑j) = some (.eptr 0 1 j 0) := by
              have hg : (Heap.mk 1 ((Mp.nil : Mp Blk).set 0 (.rw 1 (tx.map fun b => AV.int .u8 b.toNat)))).get 0 = some (.rw 1 (tx.map fun b => AV.int .u8 b.toNat)) := by simp only [go_sem, *, Nat.reduceLT, Int.reduceEq, Int.reduceBEq, Int.reduceLE, Int.reduceLT, Nat.reduceAdd, Nat.reduceBEq, Nat.reduceEqDiff, reduceIte, Nat.reduceLeDiff, Nat.reduceMul, Nat.reduceSub, reduceCtorEq, hp_get]
              simp only [indexAddrV, Tryz.underlying71, ty_lay5, hij, hg, if_true, Nat.zero_add]
            have htn : tx ≠ [] := fun e => by rw [e] at hj; simp at hj
            have HTN := Lib.hid htn
            clear hsp hbb hdg hsh hat hj hd0 hd9 hsame hcd hcdd hrd htn
            refine ClR.walk (c := _) rfl Tryz.func9 rfl (by kernel_rfl) rfl isRet_fail ?_
            simp only [entryEnv, Nat.reduceAdd, emptyHp]
            repeat' (first | (apply WO1.s2b (e := 5) (l := tx); exact Z2; (focus (exact Tryz.underlying9)); (focus (exact Tryz.underlying71)); (focus (exact Tryz.underlying5)); (focus (exact HTN.out)); exact rfl; simp only [pM, pN]) | (apply U5; exact rfl; (focus (intro cl rd; simp only [go_sem, *, Nat.reduceLT, Int.reduceEq, Int.reduceBEq, Int.reduceLE, Int.reduceLT, Nat.reduceAdd, Nat.reduceBEq, Nat.reduceEqDiff, reduceIte, Nat.reduceLeDiff, Nat.reduceMul, Nat.reduceSub, reduceCtorEq, efV, Fr.storeE, AV.cells, isTuple, write_eptr, splice, asElem, isAggV]; with_reducible rfl)); simp only [pM, pN]) | (apply WO1.b2s (e := 5) (l := (tx.set j cd).map fun b => AV.int .u8 b.toNat); exact Z1; (focus (exact Tryz.underlying71)); (focus (exact Tryz.underlying9)); (focus (exact Tryz.underlying5)); (focus (refine elems_row (sz := 1) (L := (tx.set j cd).map fun b => AV.int .u8 b.toNat) ?_ rfl ?_; (focus exact Z2); (focus (simp)))); (focus (exact bytesOf_map _)); exact rfl; simp only [pM, pN]) | refine go1 ?_ | (apply U6; exact Z1; exact Z1; (focus (simp only [List.nil_append, List.append_nil]; first | exact k22 _ | exact k21 _ | exact k24 _ | exact k40 _ | exact k41 _ | exact k43z _)); simp only [pM, pN, rR, rP]) | refine go2 (fun hh => ?_) (fun hh => ?_) | fail)
            all_goals simp only [resV_def (X := dXW c9) Tryz.func9, Tryz.results9, resultsV, resultV, go_sem, *, Nat.reduceLT, Int.reduceEq, Int.reduceBEq, Int.reduceLE, Int.reduceLT, Nat.reduceAdd, Nat.reduceBEq, Nat.reduceEqDiff, reduceIte, Nat.reduceLeDiff, Nat.reduceMul, Nat.reduceSub, reduceCtorEq, frzRes, dFrz, frzCells, isRet_ret, tupleOf]
        · have hdg : isDig b = false := by simpa using hdg
          rcases lss48n b hdg with e3 | ⟨e3, e4⟩
          all_goals (
            clear hsp hdg hsh hat hj hd0 hd9
            refine ClR.walk (c := _) rfl Tryz.func9 rfl (by kernel_rfl) rfl isRet_fail ?_
            simp only [entryEnv, Nat.reduceAdd, emptyHp]
            repeat' (first | refine goS ?_ | (apply U6; exact Z1; exact Z1; (focus (simp only [List.nil_append, List.append_nil]; first | exact k22 _ | exact k21 _ | exact k24 _ | exact k40 _)); simp only [pM, pN, rR, rP]) | refine go2 (fun hh => ?_) (fun hh => ?_) | fail)
            all_goals simp only [resV_def (X := dXW c9) Tryz.func9, Tryz.results9, resultsV, resultV, go_sem, *, Nat.reduceLT, Int.reduceEq, Int.reduceBEq, Int.reduceLE, Int.reduceLT, Nat.reduceAdd, Nat.reduceBEq, Nat.reduceEqDiff, reduceIte, Nat.reduceLeDiff, Nat.reduceMul, Nat.reduceSub, reduceCtorEq, frzRes, dFrz, frzCells, isRet_ret, tupleOf])
      · have hcase : decide (at_ < 0) = true ∨ (decide (at_ < 0) = false ∧ decide (at_ ≥ (tx.length : Int)) = true) := by
          simp only [decide_eq_true_eq, decide_eq_false_iff_not]
          omega
        rcases hcase with e1 | ⟨e1, e2⟩
        all_goals (
          clear hsp hsh hat hd0 hd9
          refine ClR.walk (c := _) rfl Tryz.func9 rfl (by kernel_rfl) rfl isRet_fail ?_
          simp only [entryEnv, Nat.reduceAdd, emptyHp]
          repeat' (first | refine goS ?_ | (apply U6; exact Z1; exact Z1; (focus (simp only [List.nil_append, List.append_nil]; first | exact k22 _ | exact k21 _ | exact k24 _ | exact k40 _)); simp only [pM, pN, rR, rP]) | refine go2 (fun hh => ?_) (fun hh => ?_) | fail)
          all_goals simp only [resV_def (X := dXW c9) Tryz.func9, Tryz.results9, resultsV, resultV, go_sem, *, Nat.reduceLT, Int.reduceEq, Int.reduceBEq, Int.reduceLE, Int.reduceLT, Nat.reduceAdd, Nat.reduceBEq, Nat.reduceEqDiff, reduceIte, Nat.reduceLeDiff, Nat.reduceMul, Nat.reduceSub, reduceCtorEq, frzRes, dFrz, frzCells, isRet_ret, tupleOf])
    · have hcase : houseB m = false ∨ (houseB m = true ∧ decide (digit < 0) = true) ∨ (houseB m = true ∧ decide (digit < 0) = false ∧ decide (digit > 9) = true) := by
        cases hb : houseB m with
        | false => exact .inl rfl
        | true =>
          rw [hb] at hbd
          simp only [true_and, decide_eq_true_eq, decide_eq_false_iff_not] at hbd ⊢
          omega
      clear v1 v2 v3 v4 w1 w2 w3 w4 hbd k40
      generalize houseB m = mb at *
      rcases hcase with rfl | ⟨rfl, c1⟩ | ⟨rfl, c1, c2⟩
      all_goals (
        refine ClR.walk (c := _) rfl Tryz.func9 rfl (by kernel_rfl) rfl isRet_fail ?_
        simp only [entryEnv, Nat.reduceAdd, emptyHp]
        repeat' (first | refine goS ?_ | (apply U6; exact Z1; exact Z1; (focus (simp only [List.nil_append, List.append_nil]; first | exact k22 _ | exact k21 _ | exact k24 _)); simp only [pM, pN, rR, rP]) | refine go2 (fun hh => ?_) (fun hh => ?_) | fail)
        all_goals simp only [resV_def (X := dXW c9) Tryz.func9, Tryz.results9, resultsV, resultV, go_sem, *, Nat.reduceLT, Int.reduceEq, Int.reduceBEq, Int.reduceLE, Int.reduceLT, Nat.reduceAdd, Nat.reduceBEq, Nat.reduceEqDiff, reduceIte, Nat.reduceLeDiff, Nat.reduceMul, Nat.reduceSub, reduceCtorEq, frzRes, dFrz, frzCells, isRet_ret, tupleOf])
  | false =>
    rw [g] at k21
    clear v1 v2 v3 v4 g
    refine ClR.walk (c := _) rfl Tryz.func9 rfl (by kernel_rfl) rfl isRet_fail ?_
    simp only [entryEnv, Nat.reduceAdd, emptyHp]
    repeat' (first | refine goS ?_ | (apply U6; exact Z1; exact Z1; (focus (simp only [List.nil_append, List.append_nil]; first | exact k22 _ | exact k21 _)); simp only [pM, pN, rR, rP]) | refine go2 (fun hh => ?_) (fun hh => ?_) | fail)
    all_goals simp only [resV_def (X := dXW c9) Tryz.func9, Tryz.results9, resultsV, resultV, go_sem, *, Nat.reduceLT, Int.reduceEq, Int.reduceBEq, Int.reduceLE, Int.reduceLT, Nat.reduceAdd, Nat.reduceBEq, Nat.reduceEqDiff, reduceIte, Nat.reduceLeDiff, Nat.reduceMul, Nat.reduceSub, reduceCtorEq, frzRes, dFrz, frzCells, isRet_ret, tupleOf]
end Go.AM
