/-
  DrillTurned: for every measure, every list of points and every turn the law returns true, and its arguments read behind the call as before. No condition but the row's own: the tables of Go's library that it lists hold what the program's text lays there.
-/
import Derived.Test.YtlhcjccaimmhgaaGreatDoorFnM
import Derived.Test.YtlhcjccaimmhgaaGreatDoorShared
import Derived.Test.YtlhcjccaimmhgaaGreatDoorHeadB
import Derived.Test.YtlhcjccaimmhgaaGreatDoorCards
set_option linter.unusedSectionVars false
set_option linter.unusedVariables false
set_option linter.unusedSimpArgs false
set_option maxRecDepth 100000
namespace Go.AM
open Go Go.Proofs
variable [Keep]
attribute [local irreducible] W WO WO1 WD WQ WT thenQ blockQ endR isRet retK Cl ClR
attribute [local irreducible] farS againS matchS measB
noncomputable def c4 : FuncId → Option (List AV → Heap → Option (AV × Heap))
  | 31 => some (pureFn sp31)
  | 32 => some (pureFn sp32)
  | 33 => some (pureFn sp33)
  | 34 => some (pureFn sp34)
  | f => c25 cK f
theorem meas_len {l : List Pt} {off : Int} (h : measB l off = true) : 2 ≤ l.length ∧ l.length ≤ 4 := by
  unfold measB at h
  simp only [allB, inB, Bool.and_eq_true, decide_eq_true_eq] at h
  omega
set_option maxHeartbeats 8000000 in
theorem T4 (ca la : AV) (off turn : Int) (hs ps : List Pt) (hc : isSl ca (hs.map ptC.enc)) (hl : isSl la (ps.map ptC.enc)) : ClR (dX c4) 4 [.agg [ca, .int .i64 off], la, .int .i64 turn] emptyHp (isRet (.bool true)) := by
  have o1 := hc.out
  have o2 := hl.out
  have t1 := hc.tup
  have ln1 : lenS ca = some hs.length := by rw [hc.len, List.length_map]
  have ln2 : lenS la = some ps.length := by rw [hl.len, List.length_map]
  have k25 : ∀ h, Cl (dX c4) 25 [] h (.ret (.bool true) h none) := fun h => K25 rfl h
  by_cases g1 : (ps.length : Int) > 6
  · have hd : decide ((ps.length : Int) > 6) = true := by simpa using g1
    clear hc hl g1
    refine ClR.walk (c := _) rfl Tryz.func4 rfl (by kernel_rfl) rfl isRet_fail ?_
    simp only [entryEnv, Nat.reduceAdd, emptyHp]
    repeat' (first | (refine ⟨⟨trivial, trivial⟩, ?_⟩) | (refine ⟨⟨rfl, rfl⟩, ?_⟩) | (refine WQ.cons rfl rfl ?_) | (refine WT.cons rfl rfl ?_) | (refine WQ.nil ?_) | (refine WT.nil ?_; simp only [tN, bN, eN, true_and]) | (apply WQ.alloc; exact rfl; exact rfl; exact payR; simp only [pM, pN]) | refine W.seq ?_ | refine W.region ?_ | refine W.block ?_ | refine W.scope ?_ | refine WO.cons ?_ | (refine WO.nil ?_; simp only [tN, bN, eN, true_and]) | (apply WO1.rd; exact payR; exact rfl; simp only [pM, pN, rR, rP]) | (refine WO1.gyes (b := true) rfl rfl ?_ rfl ?_; exact payD) | (refine WO1.gno (b := true) rfl rfl ?_ rfl ?_; exact payD; simp only [pM, pN, rR, rP]) | (refine WO1.gyes (b := false) rfl rfl ?_ rfl ?_; exact payD) | (refine WO1.gno (b := false) rfl rfl ?_ rfl ?_; exact payD; simp only [pM, pN, rR, rP]) | (apply WO1.gsplit; exact rfl; exact rfl; exact payR; refine ⟨fun hh => ?_, fun hh => ?_⟩ <;> try simp only [Bool.not_true, Bool.not_false, pM, pN] at hh ⊢) | (apply WO1.call; exact payR; exact payR; (focus (simp only [List.nil_append, List.append_nil]; first | exact k25 _)); simp only [pM, pN, rR, rP]) | (apply WO1.ef; exact rfl; exact payE; simp only [pM, pN, rR, rP]) | (simp only [tP, bP, eP, true_and]) | (refine W.ret ?_; simp only [tR, bR, eR, true_and]) | (refine W.skip ?_; simp only [tN, bN, eN, true_and]) | (refine W.exit ?_; simp only [tX, bS, bO, Nat.reduceBEq, tN, bN]) | (refine W.condT ?_ ?_; exact payD) | (refine W.condF ?_ ?_; exact payD) | (apply W.condB; exact payR; refine ⟨fun hh => ?_, fun hh => ?_⟩))
    all_goals simp only [resV_def (X := dX c4) Tryz.func4, Tryz.results4, resultsV, resultV, go_sem, *, Nat.reduceLT, Int.reduceEq, Int.reduceBEq, Int.reduceLE, Int.reduceLT, Nat.reduceAdd, Nat.reduceBEq, Nat.reduceEqDiff, reduceIte, Nat.reduceLeDiff, Nat.reduceMul, Nat.reduceSub, reduceCtorEq, frzRes, dFrz, frzCells, isRet_ret, tupleOf]
  have hd1 : decide ((ps.length : Int) > 6) = false := by simpa using g1
  by_cases g2 : (hs.length : Int) > 6
  · have hd : decide ((hs.length : Int) > 6) = true := by simpa using g2
    clear hc hl g1 g2
    refine ClR.walk (c := _) rfl Tryz.func4 rfl (by kernel_rfl) rfl isRet_fail ?_
    simp only [entryEnv, Nat.reduceAdd, emptyHp]
    repeat' (first | (refine ⟨⟨trivial, trivial⟩, ?_⟩) | (refine ⟨⟨rfl, rfl⟩, ?_⟩) | (refine WQ.cons rfl rfl ?_) | (refine WT.cons rfl rfl ?_) | (refine WQ.nil ?_) | (refine WT.nil ?_; simp only [tN, bN, eN, true_and]) | (apply WQ.alloc; exact rfl; exact rfl; exact payR; simp only [pM, pN]) | refine W.seq ?_ | refine W.region ?_ | refine W.block ?_ | refine W.scope ?_ | refine WO.cons ?_ | (refine WO.nil ?_; simp only [tN, bN, eN, true_and]) | (apply WO1.rd; exact payR; exact rfl; simp only [pM, pN, rR, rP]) | (refine WO1.gyes (b := true) rfl rfl ?_ rfl ?_; exact payD) | (refine WO1.gno (b := true) rfl rfl ?_ rfl ?_; exact payD; simp only [pM, pN, rR, rP]) | (refine WO1.gyes (b := false) rfl rfl ?_ rfl ?_; exact payD) | (refine WO1.gno (b := false) rfl rfl ?_ rfl ?_; exact payD; simp only [pM, pN, rR, rP]) | (apply WO1.gsplit; exact rfl; exact rfl; exact payR; refine ⟨fun hh => ?_, fun hh => ?_⟩ <;> try simp only [Bool.not_true, Bool.not_false, pM, pN] at hh ⊢) | (apply WO1.call; exact payR; exact payR; (focus (simp only [List.nil_append, List.append_nil]; first | exact k25 _)); simp only [pM, pN, rR, rP]) | (apply WO1.ef; exact rfl; exact payE; simp only [pM, pN, rR, rP]) | (simp only [tP, bP, eP, true_and]) | (refine W.ret ?_; simp only [tR, bR, eR, true_and]) | (refine W.skip ?_; simp only [tN, bN, eN, true_and]) | (refine W.exit ?_; simp only [tX, bS, bO, Nat.reduceBEq, tN, bN]) | (refine W.condT ?_ ?_; exact payD) | (refine W.condF ?_ ?_; exact payD) | (apply W.condB; exact payR; refine ⟨fun hh => ?_, fun hh => ?_⟩))
    all_goals simp only [resV_def (X := dX c4) Tryz.func4, Tryz.results4, resultsV, resultV, go_sem, *, Nat.reduceLT, Int.reduceEq, Int.reduceBEq, Int.reduceLE, Int.reduceLT, Nat.reduceAdd, Nat.reduceBEq, Nat.reduceEqDiff, reduceIte, Nat.reduceLeDiff, Nat.reduceMul, Nat.reduceSub, reduceCtorEq, frzRes, dFrz, frzCells, isRet_ret, tupleOf]
  have hd2 : decide ((hs.length : Int) > 6) = false := by simpa using g2
  have v1 : slV ptC ca = some hs := slV_mk hc (by unfold maxL; omega)
  have v2 : slV ptC la = some ps := slV_mk hl (by unfold maxL; omega)
  have k31 : ∀ h, Cl (dX c4) 31 [.agg [ca, .int .i64 off]] h (.ret (.bool (measB hs off)) h none) := fun h => Cl.intr (g := pureFn sp31) rfl (by simp [pureFn, AV.pur, AV.purL, sl_pur v1, sp31, v1])
  have k27 : ∀ h, Cl (dX c4) 27 [.int .i64 turn] h (.ret (.bool (inB turn 0 7)) h none) := fun h => K27 rfl turn h
  have k28 : ∀ h, Cl (dX c4) 28 [la, .int .i64 ↑hs.length, .int .i64 ↑hs.length, .int .i64 80] h (.ret (.bool (pointsB ps hs.length hs.length 80)) h none) := fun h => K28 rfl la ps _ _ 80 v2 h
  by_cases hall : measB hs off = true ∧ inB turn 0 7 = true ∧ pointsB ps hs.length hs.length 80 = true
  · obtain ⟨m1, m2, m3⟩ := hall
    have hms := meas_len m1
    have hin := m2
    simp only [inB, Bool.and_eq_true, decide_eq_true_eq] at hin
    obtain ⟨s, rfl⟩ : ∃ s : Nat, turn = s := ⟨turn.toNat, by omega⟩
    have hs8 : s < 8 := by omega
    have hpt := m3
    simp only [pointsB, inB, Bool.and_eq_true, decide_eq_true_eq] at hpt
    obtain ⟨hok, hln⟩ := hpt
    have hlen : hs.length = ps.length := by omega
    have hl4 : ps.length ≤ 4 := by omega
    have a1 := again_ok hs8 1 ps hok hl4
    have a2 := again_same (t := 1) (k := 4) (by omega) (fun p hp => four_one hp) hok hl4
    have a3 := again_same (t := 4) (k := 2) (by omega) (fun p hp => two_four hp) hok hl4
    have hx1 : iter (List.map (turnP (s : Nat))) 1 ps = ps.map (turnP (s : Nat)) := rfl
    rw [hx1] at a1
    have hmax : ps.length ≤ maxL := by unfold maxL; omega
    have k32a : ∀ h, Cl (dX c4) 32 [la, .int .i64 ↑s, .int .i64 1] h (.ret (slN ((ps.map (turnP (s : Nat))).map ptC.enc)) h none) := fun h => by
      have := K32 (X := dX c4) rfl la ps s 1 v2 rfl h
      rw [show (1 : Int).toNat = 1 from rfl, a1] at this
      exact this
    have k32b : ∀ h, Cl (dX c4) 32 [la, .int .i64 1, .int .i64 4] h (.ret (slN (ps.map ptC.enc)) h none) := fun h => by
      have := K32 (X := dX c4) rfl la ps 1 4 v2 rfl h
      rw [show (4 : Int).toNat = 4 from rfl, show (1 : Int) = ((1 : Nat) : Int) from rfl, a2] at this
      exact this
    have k32c : ∀ h, Cl (dX c4) 32 [la, .int .i64 4, .int .i64 2] h (.ret (slN (ps.map ptC.enc)) h none) := fun h => by
      have := K32 (X := dX c4) rfl la ps 4 2 v2 rfl h
      rw [show (2 : Int).toNat = 2 from rfl, show (4 : Int) = ((4 : Nat) : Int) from rfl, a3] at this
      exact this
    have spw : slV ptC (slN (ps.map ptC.enc)) = some ps := slV_slN hmax
    have sxw : slV ptC (slN ((ps.map (turnP (s : Nat))).map ptC.enc)) = some (ps.map (turnP (s : Nat))) := slV_slN (by rw [List.length_map]; exact hmax)
    have k29 : ∀ h, Cl (dX c4) 29 [slN (ps.map ptC.enc), la] h (.ret (.bool true) h none) := fun h => by
      have := K29 (X := dX c4) rfl (slN (ps.map ptC.enc)) la ps ps spw v2 (by omega) (by omega) h
      simpa using this
    have k34 : ∀ (w : AV) (qs : List Pt), slV ptC w = some qs → qs.all (okPt 80) = true → qs.length = ps.length → ∀ h, Cl (dX c4) 34 [.agg [ca, .int .i64 off], w] h (.ret (matchR (matchS off hs qs)) h none) := fun w qs hw hq hql h => by
      have hm : matchOk hs qs off = true := by
        unfold matchOk
        rw [m1, allB_P]
        simp only [pointsB, hq, inB, Bool.true_and, Bool.and_eq_true, decide_eq_true_eq]
        omega
      have : Cl (dX c4) 34 [.agg [ca, .int .i64 off], w] h (.ret (matchF hs qs off) h none) := Cl.intr (g := pureFn sp34) rfl (by simp [pureFn, AV.pur, AV.purL, sl_pur v1, sl_pur hw, sp34, v1, hw])
      unfold matchF at this
      rw [if_pos hm] at this
      exact this
    have k34a' := k34 la ps v2 hok rfl
    have k34b' := k34 _ _ sxw (all_turned hs8 hok) (by rw [List.length_map])
    have hmt := match_turned (off := off) (hs := hs) hs8 hok hlen
    have ho3 := sl_out spw
    have ho4 := sl_out sxw
    have hl4' := sl_len sxw
    rw [List.length_map] at hl4'
    have hnn : ((ps.length : Int) != (ps.length : Int)) = false := by simp
    have HV2 := Lib.hid v2
    have HSX := Lib.hid sxw
    have HOK := Lib.hid hok
    have HMX := Lib.hid hmax
    have hfar : ∀ i k p q, ps[i]? = some p → ps[k]? = some q → farS (turnP (s : Nat) p) (turnP (s : Nat) q) = farS p q := fun i k p q h1 h2 => far_turn hs8 (List.all_eq_true.1 hok p (List.mem_of_getElem? h1)) (List.all_eq_true.1 hok q (List.mem_of_getElem? h2))
    have HFAR := Lib.hid hfar
    have hmi : ∀ i p, ps[i]? = some p → (ps.map (turnP (s : Nat)))[i]? = some (turnP (s : Nat) p) := fun i p h => by rw [List.getElem?_map, h]; rfl
    have HMI := Lib.hid hmi
    rw [m1] at k31
    rw [m2] at k27
    rw [m3] at k28
    have HLEN := Lib.hid hlen
    rw [hlen] at k28 hd2 ln1
    clear hc hl g1 g2 v1 v2 m1 m2 m3 hms hin hok hln hlen a1 a2 a3 hx1 spw sxw k34 hfar hmax hs8 hl4 hmi
    generalize ps.map (turnP (s : Nat)) = xs at *
    generalize slN (xs.map ptC.enc) = xw at *
    generalize slN (ps.map ptC.enc) = pw at *
    generalize matchS off hs ps = ma at *
    generalize matchS off hs xs = mb at *
    refine ClR.walk (c := _) rfl Tryz.func4 rfl (by kernel_rfl) rfl isRet_fail ?_
    simp only [entryEnv, Nat.reduceAdd, emptyHp]
    repeat' (first | (refine ⟨⟨trivial, trivial⟩, ?_⟩) | (refine ⟨⟨rfl, rfl⟩, ?_⟩) | (refine WQ.cons rfl rfl ?_) | (refine WT.cons rfl rfl ?_) | (refine WQ.nil ?_) | (refine WT.nil ?_; simp only [tN, bN, eN, true_and]) | (apply WQ.alloc; exact rfl; exact rfl; exact payR; simp only [pM, pN]) | refine W.seq ?_ | refine W.region ?_ | refine W.block ?_ | refine W.scope ?_ | refine WO.cons ?_ | (refine WO.nil ?_; simp only [tN, bN, eN, true_and]) | (apply WO1.rd; exact payR; exact rfl; simp only [pM, pN, rR, rP]) | (refine WO1.gyes (b := true) rfl rfl ?_ rfl ?_; exact payD) | (refine WO1.gno (b := true) rfl rfl ?_ rfl ?_; exact payD; simp only [pM, pN, rR, rP]) | (refine WO1.gyes (b := false) rfl rfl ?_ rfl ?_; exact payD) | (refine WO1.gno (b := false) rfl rfl ?_ rfl ?_; exact payD; simp only [pM, pN, rR, rP]) | (apply WO1.gsplit; exact rfl; exact rfl; exact payR; refine ⟨fun hh => ?_, fun hh => ?_⟩ <;> try simp only [Bool.not_true, Bool.not_false, pM, pN] at hh ⊢) | (apply WO1.call; exact payR; exact payR; (focus (simp only [List.nil_append, List.append_nil]; first | exact k31 _ | exact k27 _ | exact k28 _ | exact k32a _ | exact k32b _ | exact k32c _ | exact k29 _)); simp only [pM, pN, rR, rP]) | (apply WO1.ef; exact rfl; exact payE; simp only [pM, pN, rR, rP]) | (simp only [tP, bP, eP, true_and]) | (refine W.ret ?_; simp only [tR, bR, eR, true_and]) | (refine W.skip ?_; simp only [tN, bN, eN, true_and]) | (refine W.exit ?_; simp only [tX, bS, bO, Nat.reduceBEq, tN, bN]) | (refine W.condT ?_ ?_; exact payD) | (refine W.condF ?_ ?_; exact payD) | (apply W.condB; exact payR; refine ⟨fun hh => ?_, fun hh => ?_⟩))
    clear k31 k27 k28 k32a k32b k32c k29
    refine W.loopN ps.length (fun i F => ∃ e lm, F = Fr.mk 4 false e lm ⟨0, .nil⟩ [] none ∧ lm.get 3 = some (0, [ca, .int .i64 off]) ∧ e.get 1 = some la ∧ e.get 3 = some (.lptr 3 0 0) ∧ e.get 7 = some xw ∧ e.get 8 = some (.int .i64 ↑i) ∧ i ≤ ps.length) ?_ ?_
    · refine ⟨_, _, rfl, ?_, ?_, ?_, ?_, ?_, ?_⟩ <;> first | exact payD | simp [go_sem, *, Nat.reduceLT, Int.reduceEq, Int.reduceBEq, Int.reduceLE, Int.reduceLT, Nat.reduceAdd, Nat.reduceBEq, Nat.reduceEqDiff, reduceIte, Nat.reduceLeDiff, Nat.reduceMul, Nat.reduceSub, reduceCtorEq]
    rintro i F ⟨e, lm, rfl, m3, h1, h3, h7, h8, hi⟩
    by_cases hlt : i < ps.length
    · have hd : decide ((i : Int) < (ps.length : Int)) = true := by simpa using hlt
      have hw := wrap_succ hlt HMX.out
      obtain ⟨p, hp⟩ := get_some hlt
      have hix := pts_idx HV2.out hp
      have hiy := pts_idx HSX.out (HMI.out i p hp)
      have HP := Lib.hid hp
      clear hp
      repeat' (first | (refine ⟨⟨trivial, trivial⟩, ?_⟩) | (refine ⟨⟨rfl, rfl⟩, ?_⟩) | (refine WQ.cons rfl rfl ?_) | (refine WT.cons rfl rfl ?_) | (refine WQ.nil ?_) | (refine WT.nil ?_; simp only [tN, bN, eN, true_and]) | (apply WQ.alloc; exact rfl; exact rfl; exact payR; simp only [pM, pN]) | refine W.seq ?_ | refine W.region ?_ | refine W.block ?_ | refine W.scope ?_ | refine WO.cons ?_ | (refine WO.nil ?_; simp only [tN, bN, eN, true_and]) | (apply WO1.rd; exact payR; exact rfl; simp only [pM, pN, rR, rP]) | (refine WO1.gyes (b := true) rfl rfl ?_ rfl ?_; exact payD) | (refine WO1.gno (b := true) rfl rfl ?_ rfl ?_; exact payD; simp only [pM, pN, rR, rP]) | (refine WO1.gyes (b := false) rfl rfl ?_ rfl ?_; exact payD) | (refine WO1.gno (b := false) rfl rfl ?_ rfl ?_; exact payD; simp only [pM, pN, rR, rP]) | (apply WO1.gsplit; exact rfl; exact rfl; exact payR; refine ⟨fun hh => ?_, fun hh => ?_⟩ <;> try simp only [Bool.not_true, Bool.not_false, pM, pN] at hh ⊢) | (apply WO1.ef; exact rfl; exact payE; simp only [pM, pN, rR, rP]) | (simp only [tP, bP, eP, true_and]) | (refine W.ret ?_; simp only [tR, bR, eR, true_and]) | (refine W.skip ?_; simp only [tN, bN, eN, true_and]) | (refine W.exit ?_; simp only [tX, bS, bO, Nat.reduceBEq, tN, bN]) | (refine W.condT ?_ ?_; exact payD) | (refine W.condF ?_ ?_; exact payD) | (apply W.condB; exact payR; refine ⟨fun hh => ?_, fun hh => ?_⟩))
      refine W.loopN i (fun k F => ∃ e lm, F = Fr.mk 4 false e lm ⟨0, .nil⟩ [] none ∧ lm.get 3 = some (0, [ca, .int .i64 off]) ∧ e.get 1 = some la ∧ e.get 3 = some (.lptr 3 0 0) ∧ e.get 7 = some xw ∧ e.get 8 = some (.int .i64 ↑i) ∧ e.get 9 = some (.int .i64 ↑k) ∧ k ≤ i) ?_ ?_
      · refine ⟨_, _, rfl, ?_, ?_, ?_, ?_, ?_, ?_, ?_⟩ <;> first | exact payD | simp [go_sem, *, Nat.reduceLT, Int.reduceEq, Int.reduceBEq, Int.reduceLE, Int.reduceLT, Nat.reduceAdd, Nat.reduceBEq, Nat.reduceEqDiff, reduceIte, Nat.reduceLeDiff, Nat.reduceMul, Nat.reduceSub, reduceCtorEq]
      clear m3 h1 h3 h7 h8 hd
      rintro k F ⟨e, lm, rfl, m3, h1, h3, h7, h8, h9, hk⟩
      by_cases hki : k < i
      · have hd : decide ((k : Int) < (i : Int)) = true := by simpa using hki
        have hw2 := wrap_succ (m := i) hki (by have := HMX.out; omega)
        obtain ⟨q, hq⟩ := get_some (show k < ps.length by omega)
        have hkx := pts_idx HV2.out hq
        have hky := pts_idx HSX.out (HMI.out k q hq)
        have hf := HFAR.out i k p q HP.out hq
        generalize turnP (s : Nat) p = p' at *
        generalize turnP (s : Nat) q = q' at *
        have k33a : ∀ h, Cl (dX c4) 33 [.agg [.int .i64 p.x, .int .i64 p.y], .agg [.int .i64 q.x, .int .i64 q.y]] h (.ret (.int .i64 (farS p q)) h none) := fun h => K33 rfl p q h
        have k33b : ∀ h, Cl (dX c4) 33 [.agg [.int .i64 p'.x, .int .i64 p'.y], .agg [.int .i64 q'.x, .int .i64 q'.y]] h (.ret (.int .i64 (farS p q)) h none) := fun h => by
          rw [← hf]
          exact K33 rfl p' q' h
        generalize farS p q = fr at *
        have hne : (fr != fr) = false := by simp
        clear hf hq
        repeat' (first | (apply W.drawQ (id := 12) (l1 := [0, 1, 2, 3, 4, 5, 6, 7, 8, 9, 10, 11, 12, 13, 14, 15, 16, 17, 18]) (l2 := []); kernel_rfl; kernel_rfl; kernel_rfl; exact payP) | (refine ⟨⟨trivial, trivial⟩, ?_⟩) | (refine ⟨⟨rfl, rfl⟩, ?_⟩) | (refine WQ.cons rfl rfl ?_) | (refine WT.cons rfl rfl ?_) | (refine WQ.nil ?_) | (refine WT.nil ?_; simp only [tN, bN, eN, true_and]) | (apply WQ.alloc; exact rfl; exact rfl; exact payR; simp only [pM, pN]) | refine W.seq ?_ | refine W.region ?_ | refine W.block ?_ | refine W.scope ?_ | refine WO.cons ?_ | (refine WO.nil ?_; simp only [tN, bN, eN, true_and]) | (apply WO1.rd; exact payR; exact rfl; simp only [pM, pN, rR, rP]) | (refine WO1.gyes (b := true) rfl rfl ?_ rfl ?_; exact payD) | (refine WO1.gno (b := true) rfl rfl ?_ rfl ?_; exact payD; simp only [pM, pN, rR, rP]) | (refine WO1.gyes (b := false) rfl rfl ?_ rfl ?_; exact payD) | (refine WO1.gno (b := false) rfl rfl ?_ rfl ?_; exact payD; simp only [pM, pN, rR, rP]) | (apply WO1.gsplit; exact rfl; exact rfl; exact payR; refine ⟨fun hh => ?_, fun hh => ?_⟩ <;> try simp only [Bool.not_true, Bool.not_false, pM, pN] at hh ⊢) | (apply WO1.call; exact payR; exact payR; (focus (simp only [List.nil_append, List.append_nil]; first | exact k33a _ | exact k33b _)); simp only [pM, pN, rR, rP]) | (apply WO1.ef; exact rfl; exact payE; simp only [pM, pN, rR, rP]) | (simp only [tP, bP, eP, true_and]) | (refine W.ret ?_; simp only [tR, bR, eR, true_and]) | (refine W.skip ?_; simp only [tN, bN, eN, true_and]) | (refine W.exit ?_; simp only [tX, bS, bO, Nat.reduceBEq, tN, bN]) | (refine W.condT ?_ ?_; exact payD) | (refine W.condF ?_ ?_; exact payD) | (apply W.condB; exact payR; refine ⟨fun hh => ?_, fun hh => ?_⟩))
        refine ⟨hki, _, _, rfl, ?_, ?_, ?_, ?_, ?_, ?_, by omega⟩
        all_goals exact payD
      · have hd : decide ((k : Int) < (i : Int)) = false := by simpa using hki
        clear hki hk
        repeat' (first | (refine ⟨⟨trivial, trivial⟩, ?_⟩) | (refine ⟨⟨rfl, rfl⟩, ?_⟩) | (refine WQ.cons rfl rfl ?_) | (refine WT.cons rfl rfl ?_) | (refine WQ.nil ?_) | (refine WT.nil ?_; simp only [tN, bN, eN, true_and]) | (apply WQ.alloc; exact rfl; exact rfl; exact payR; simp only [pM, pN]) | refine W.seq ?_ | refine W.region ?_ | refine W.block ?_ | refine W.scope ?_ | refine WO.cons ?_ | (refine WO.nil ?_; simp only [tN, bN, eN, true_and]) | (apply WO1.rd; exact payR; exact rfl; simp only [pM, pN, rR, rP]) | (refine WO1.gyes (b := true) rfl rfl ?_ rfl ?_; exact payD) | (refine WO1.gno (b := true) rfl rfl ?_ rfl ?_; exact payD; simp only [pM, pN, rR, rP]) | (refine WO1.gyes (b := false) rfl rfl ?_ rfl ?_; exact payD) | (refine WO1.gno (b := false) rfl rfl ?_ rfl ?_; exact payD; simp only [pM, pN, rR, rP]) | (apply WO1.gsplit; exact rfl; exact rfl; exact payR; refine ⟨fun hh => ?_, fun hh => ?_⟩ <;> try simp only [Bool.not_true, Bool.not_false, pM, pN] at hh ⊢) | (apply WO1.ef; exact rfl; exact payE; simp only [pM, pN, rR, rP]) | (simp only [tP, bP, eP, true_and]) | (refine W.ret ?_; simp only [tR, bR, eR, true_and]) | (refine W.skip ?_; simp only [tN, bN, eN, true_and]) | (refine W.exit ?_; simp only [tX, bS, bO, Nat.reduceBEq, tN, bN]) | (refine W.condT ?_ ?_; exact payD) | (refine W.condF ?_ ?_; exact payD) | (apply W.condB; exact payR; refine ⟨fun hh => ?_, fun hh => ?_⟩))
        refine ⟨hlt, _, _, rfl, ?_, ?_, ?_, ?_, ?_, by omega⟩
        all_goals exact payD
    · have hd : decide ((i : Int) < (ps.length : Int)) = false := by simpa using hlt
      have f0 : ((0 : Int) == 0) = true := rfl
      have f1 : ((5 : Int) == 0) = false := rfl
      have f2 : ((5 : Int) == 5) = true := rfl
      clear hlt
      cases ma with
      | none =>
        cases mb with
        | some m => simp at hmt
        | none =>
          have k34a := k34a'
          have k34b := k34b'
          simp only [matchR] at k34a k34b
          clear k34a' k34b' hmt
          repeat' (first | (refine ⟨⟨trivial, trivial⟩, ?_⟩) | (refine ⟨⟨rfl, rfl⟩, ?_⟩) | (refine WQ.cons rfl rfl ?_) | (refine WT.cons rfl rfl ?_) | (refine WQ.nil ?_) | (refine WT.nil ?_; simp only [tN, bN, eN, true_and]) | (apply WQ.alloc; exact rfl; exact rfl; exact payR; simp only [pM, pN]) | refine W.seq ?_ | refine W.region ?_ | refine W.block ?_ | refine W.scope ?_ | refine WO.cons ?_ | (refine WO.nil ?_; simp only [tN, bN, eN, true_and]) | (apply WO1.rd; exact payR; exact rfl; simp only [pM, pN, rR, rP]) | (refine WO1.gyes (b := true) rfl rfl ?_ rfl ?_; exact payD) | (refine WO1.gno (b := true) rfl rfl ?_ rfl ?_; exact payD; simp only [pM, pN, rR, rP]) | (refine WO1.gyes (b := false) rfl rfl ?_ rfl ?_; exact payD) | (refine WO1.gno (b := false) rfl rfl ?_ rfl ?_; exact payD; simp only [pM, pN, rR, rP]) | (apply WO1.gsplit; exact rfl; exact rfl; exact payR; refine ⟨fun hh => ?_, fun hh => ?_⟩ <;> try simp only [Bool.not_true, Bool.not_false, pM, pN] at hh ⊢) | (apply WO1.call; exact payR; exact payR; (focus (simp only [List.nil_append, List.append_nil]; first | exact k34a _ | exact k34b _ | exact k25 _)); simp only [pM, pN, rR, rP]) | (apply WO1.ef; exact rfl; exact payE; simp only [pM, pN, rR, rP]) | (simp only [tP, bP, eP, true_and]) | (refine W.ret ?_; simp only [tR, bR, eR, true_and]) | (refine W.skip ?_; simp only [tN, bN, eN, true_and]) | (refine W.exit ?_; simp only [tX, bS, bO, Nat.reduceBEq, tN, bN]) | (refine W.condT ?_ ?_; exact payD) | (refine W.condF ?_ ?_; exact payD) | (apply W.condB; exact payR; refine ⟨fun hh => ?_, fun hh => ?_⟩))
          all_goals simp only [resV_def (X := dX c4) Tryz.func4, Tryz.results4, resultsV, resultV, go_sem, *, Nat.reduceLT, Int.reduceEq, Int.reduceBEq, Int.reduceLE, Int.reduceLT, Nat.reduceAdd, Nat.reduceBEq, Nat.reduceEqDiff, reduceIte, Nat.reduceLeDiff, Nat.reduceMul, Nat.reduceSub, reduceCtorEq, frzRes, dFrz, frzCells, isRet_ret, tupleOf]
      | some m =>
        cases mb with
        | none => simp at hmt
        | some m' =>
          obtain ⟨t, o⟩ := m
          obtain ⟨t', o'⟩ := m'
          have k34a := k34a'
          have k34b := k34b'
          simp only [matchR] at k34a k34b
          obtain ⟨q1, q2, _⟩ := slN_nats o
          obtain ⟨q3, q4, _⟩ := slN_nats o'
          generalize slN (natsV o) = w1 at *
          generalize slN (natsV o') = w2 at *
          clear k34a' k34b' hmt
          repeat' (first | (refine ⟨⟨trivial, trivial⟩, ?_⟩) | (refine ⟨⟨rfl, rfl⟩, ?_⟩) | (refine WQ.cons rfl rfl ?_) | (refine WT.cons rfl rfl ?_) | (refine WQ.nil ?_) | (refine WT.nil ?_; simp only [tN, bN, eN, true_and]) | (apply WQ.alloc; exact rfl; exact rfl; exact payR; simp only [pM, pN]) | refine W.seq ?_ | refine W.region ?_ | refine W.block ?_ | refine W.scope ?_ | refine WO.cons ?_ | (refine WO.nil ?_; simp only [tN, bN, eN, true_and]) | (apply WO1.rd; exact payR; exact rfl; simp only [pM, pN, rR, rP]) | (refine WO1.gyes (b := true) rfl rfl ?_ rfl ?_; exact payD) | (refine WO1.gno (b := true) rfl rfl ?_ rfl ?_; exact payD; simp only [pM, pN, rR, rP]) | (refine WO1.gyes (b := false) rfl rfl ?_ rfl ?_; exact payD) | (refine WO1.gno (b := false) rfl rfl ?_ rfl ?_; exact payD; simp only [pM, pN, rR, rP]) | (apply WO1.gsplit; exact rfl; exact rfl; exact payR; refine ⟨fun hh => ?_, fun hh => ?_⟩ <;> try simp only [Bool.not_true, Bool.not_false, pM, pN] at hh ⊢) | (apply WO1.call; exact payR; exact payR; (focus (simp only [List.nil_append, List.append_nil]; first | exact k34a _ | exact k34b _ | exact k25 _)); simp only [pM, pN, rR, rP]) | (apply WO1.ef; exact rfl; exact payE; simp only [pM, pN, rR, rP]) | (simp only [tP, bP, eP, true_and]) | (refine W.ret ?_; simp only [tR, bR, eR, true_and]) | (refine W.skip ?_; simp only [tN, bN, eN, true_and]) | (refine W.exit ?_; simp only [tX, bS, bO, Nat.reduceBEq, tN, bN]) | (refine W.condT ?_ ?_; exact payD) | (refine W.condF ?_ ?_; exact payD) | (apply W.condB; exact payR; refine ⟨fun hh => ?_, fun hh => ?_⟩))
          all_goals simp only [resV_def (X := dX c4) Tryz.func4, Tryz.results4, resultsV, resultV, go_sem, *, Nat.reduceLT, Int.reduceEq, Int.reduceBEq, Int.reduceLE, Int.reduceLT, Nat.reduceAdd, Nat.reduceBEq, Nat.reduceEqDiff, reduceIte, Nat.reduceLeDiff, Nat.reduceMul, Nat.reduceSub, reduceCtorEq, frzRes, dFrz, frzCells, isRet_ret, tupleOf]
  · clear hc hl g1 g2 v1 v2
    generalize measB hs off = b1 at *
    generalize inB turn 0 7 = b2 at *
    generalize pointsB ps hs.length hs.length 80 = b3 at *
    refine ClR.walk (c := _) rfl Tryz.func4 rfl (by kernel_rfl) rfl isRet_fail ?_
    simp only [entryEnv, Nat.reduceAdd, emptyHp]
    cases b1 <;> cases b2 <;> cases b3
    case true.true.true => exact absurd ⟨rfl, rfl, rfl⟩ hall
    all_goals clear hall
    all_goals (
      repeat' (first | (refine ⟨⟨trivial, trivial⟩, ?_⟩) | (refine ⟨⟨rfl, rfl⟩, ?_⟩) | (refine WQ.cons rfl rfl ?_) | (refine WT.cons rfl rfl ?_) | (refine WQ.nil ?_) | (refine WT.nil ?_; simp only [tN, bN, eN, true_and]) | (apply WQ.alloc; exact rfl; exact rfl; exact payR; simp only [pM, pN]) | refine W.seq ?_ | refine W.region ?_ | refine W.block ?_ | refine W.scope ?_ | refine WO.cons ?_ | (refine WO.nil ?_; simp only [tN, bN, eN, true_and]) | (apply WO1.rd; exact payR; exact rfl; simp only [pM, pN, rR, rP]) | (refine WO1.gyes (b := true) rfl rfl ?_ rfl ?_; exact payD) | (refine WO1.gno (b := true) rfl rfl ?_ rfl ?_; exact payD; simp only [pM, pN, rR, rP]) | (refine WO1.gyes (b := false) rfl rfl ?_ rfl ?_; exact payD) | (refine WO1.gno (b := false) rfl rfl ?_ rfl ?_; exact payD; simp only [pM, pN, rR, rP]) | (apply WO1.gsplit; exact rfl; exact rfl; exact payR; refine ⟨fun hh => ?_, fun hh => ?_⟩ <;> try simp only [Bool.not_true, Bool.not_false, pM, pN] at hh ⊢) | (apply WO1.call; exact payR; exact payR; (focus (simp only [List.nil_append, List.append_nil]; first | exact k31 _ | exact k27 _ | exact k28 _ | exact k25 _)); simp only [pM, pN, rR, rP]) | (apply WO1.ef; exact rfl; exact payE; simp only [pM, pN, rR, rP]) | (simp only [tP, bP, eP, true_and]) | (refine W.ret ?_; simp only [tR, bR, eR, true_and]) | (refine W.skip ?_; simp only [tN, bN, eN, true_and]) | (refine W.exit ?_; simp only [tX, bS, bO, Nat.reduceBEq, tN, bN]) | (refine W.condT ?_ ?_; exact payD) | (refine W.condF ?_ ?_; exact payD) | (apply W.condB; exact payR; refine ⟨fun hh => ?_, fun hh => ?_⟩))
      all_goals simp only [resV_def (X := dX c4) Tryz.func4, Tryz.results4, resultsV, resultV, go_sem, *, Nat.reduceLT, Int.reduceEq, Int.reduceBEq, Int.reduceLE, Int.reduceLT, Nat.reduceAdd, Nat.reduceBEq, Nat.reduceEqDiff, reduceIte, Nat.reduceLeDiff, Nat.reduceMul, Nat.reduceSub, reduceCtorEq, frzRes, dFrz, frzCells, isRet_ret, tupleOf])
end Go.AM
set_option maxRecDepth 100000
namespace Go.AM
open Go Go.Proofs
variable [Keep]
theorem ag33 : isAggT Tryz.prog 33 = true := by simp [isAggT, Tryz.underlying33]
theorem Sh.meas {n : Nat} {xs : List AV} (h : Sh Tryz.prog (n + 4) 33 xs) : ∃ (a : AV) (l : List Pt) (off : Int), xs = [a, .int .i64 off] ∧ isSl a (l.map ptC.enc) := by
  obtain ⟨x1, y1, rfl, h1, x2, y2, rfl, h2, rfl⟩ := Sh.struct Tryz.underlying33 h
  obtain ⟨a, l, rfl, hl⟩ := Sh.pts h1
  obtain ⟨off, rfl⟩ := Sh.i64 h2
  exact ⟨a, l, off, rfl, hl⟩
end Go.AM
set_option maxRecDepth 100000
namespace Go.AM
open Go Go.Proofs
variable [Keep]
theorem c4_sound (hT : TabK Tryz.prog) : Sound (dX c4) := dX_sound (fun f g h => by
  unfold c4 at h
  split at h
  · cases h; exact F31
  · cases h; exact F32
  · cases h; exact F33
  · cases h; exact F34
  · exact (c25_sound hT).intr f g h)
end Go.AM
namespace Go.Proofs.YtlhcjccaimmhgaaGreatDoor
open Go Go.AM Go.ChangeShapes Go.WideShapes Go.ChangeAt Go.RowKit
theorem law4 [Keep] (hT : TabK Tryz.prog) (avs : List AV) (h : ArgsOk Tryz.prog Tryz.f4.params.toList avs) : ∃ X, X.P = Tryz.prog ∧ Sound X ∧ ∃ h', Cl X 4 avs emptyHp (.ret (.bool true) h' none) := by
  rw [Tryz.params4] at h
  rcases h with _ | ⟨k1, _ | ⟨k2, _ | ⟨k3, _ | _⟩⟩⟩
  obtain ⟨ca, hs, off, rfl, hc⟩ := Sh.meas k1
  obtain ⟨la, ps, rfl, hl⟩ := Sh.pts k2
  obtain ⟨n, rfl⟩ := Sh.i64 k3
  rw [ag33, ag22, ag3]
  exact ⟨dX c4, rfl, c4_sound hT, (T4 ca la off n hs ps hc hl).gives⟩
theorem drillTurned_lifted (os : Os) (started : os.Started) (H : Type) (enc : TypeId × Value → H) :
    ReturnsInHanded {} Tryz.checked os 4 .any (fun w args => (Rows.drillTurnedSpec.pre enc Tryz.prog Tryz.f4 Rows.drillTurnedRow.domain false w args ∧ laidMetH Tryz.prog laidL w) ∧ sizedMet enc Tryz.prog Tryz.f4 (OpenSpec.ofChange Rows.drillTurnedSpec) false w args)
      (Rows.drillTurnedSpec.post enc Tryz.prog Tryz.f4 false true false false) := by
  refine returnsInHanded_of_change_and (C := Tryz.checked) (X := fun w _ => laidMetH Tryz.prog laidL w) (fun _ _ _ hh h => h.of_heap hh) own started (by kernel_rfl) Tryz.func4
    (ChangeSpec.witness_shaped (enc := enc) (C := Tryz.checked) (os := os) (X := fun w _ => laidMetH Tryz.prog laidL w) false (World.laidAll Tryz.prog os laidL) #[.agg #[.slice none 0 0, .int .i64 0], .slice none 0 0, .int .i64 0] 8 (World.laidAll_os _ _ _)
      (World.shaped_of_ZipB (by kernel_rfl) (by kernel_rfl)) (by kernel_rfl) (by kernel_rfl) (by kernel_rfl)
      (by rw [MakeChecks.laidMetH_plain _ _ _ (by kernel_rfl)]; exact laidMet_laidAll _ (by kernel_rfl) (by kernel_rfl))) ?_
  intro W base args ds gs before hval hW _ _ hL _
  exact lawHolds Tryz.func4 (by kernel_rfl) rfl (fun ds hd => by
    match ds, hd with
    | [d1, d2, d3], _ => rfl) (by rw [Tryz.params4]; intro t ht; simp at ht; rcases ht with rfl | rfl | rfl <;> kernel_rfl) (by rw [Tryz.params4]; intro t ht; simp at ht; rcases ht with rfl | rfl | rfl <;> exact ⟨by kernel_rfl, of_decide_eq_true (by kernel_rfl)⟩)
    (fun hT avs h => law4 hT avs h) W base args ds gs before hval hW hL
theorem in4 : (Rows.drillTurnedRow.inPlace == Tryz.prog.inPlace 4) = true := by kernel_rfl
theorem unf4 : (Rows.drillTurnedRow.unfollowed == Tryz.prog.unfollowed 4) = true := by kernel_rfl
theorem rec4 : (Rows.drillTurnedRow.recurses == Tryz.prog.recurses 4) = true := by kernel_rfl
theorem nam4 : (Rows.drillTurnedRow.named == Tryz.prog.varsNamed 4) = true := by kernel_rfl
theorem closed4 : joinedFacts Tryz.prog 4 Tryz.f4 Rows.drillTurnedSpec Rows.drillTurnedRow = true := by
  unfold joinedFacts
  rw [enter_ok, lifts_ok, make_ok]
  repeat' (with_reducible apply and_mk)
  all_goals (first | with_reducible exact laidOut | with_reducible exact rowed | with_reducible exact in4 | with_reducible exact unf4 | with_reducible exact rec4 | with_reducible exact nam4 | kernel_rfl)
theorem drillTurned_holds : Rows.DrillTurnedSaid :=
  OpenClaim.holds_of_wide 4 Tryz.f4 rfl rfl rfl rfl rfl rfl rfl ⟨rfl, rfl, rfl, rfl, rfl⟩ rfl rfl rfl rfl rfl (by kernel_rfl) Tryz.func4 closed4
    (of_decide_eq_true (by kernel_rfl)) (by unfold Func.isWrapper; rw [if_neg (of_decide_eq_false (by kernel_rfl))]; exact ⟨rfl, rfl⟩)
    (fun os started H enc _ => drillTurned_lifted os started H enc)
theorem goes4 : false = Rows.drillTurnedRow.goesBy Tryz.prog := by kernel_rfl
theorem drillTurned_card : Rows.DrillTurnedCardSaid :=
  Claim7.holds_tied_plain_at .later [] [.data, .data, .data] true (true, "b61a08fa8ce36e10ae208529fc07d9da226449fa0c1a03ee5c8317728ea357ba") true drillTurned_holds (fun _ h => by cases h) (by kernel_rfl) (fun _ h => by cases h) drillTurned_row_tie rfl ⟨rfl, rfl⟩ main_ok rfl
    (fun f fn hf hfn => by
      obtain rfl : f = 4 := Option.some.inj ((show Tryz.prog.funcNamed "nacre/nacrelaw02.DrillTurned" = some 4 by kernel_rfl).symm.trans hf) |>.symm
      obtain rfl : fn = Tryz.f4 := (Option.some.inj (Tryz.func4.symm.trans hfn)).symm
      exact ⟨looks_ok, fun j t ht => by
        rw [Tryz.params4] at ht
        have hm : t ∈ [33, 22, 3] := by simpa using Array.mem_of_getElem? ht
        have hall : ([33, 22, 3].all fun u => !Tryz.prog.wantsStandIn u) = true := by kernel_rfl
        exact (show Tryz.prog.wantsStandIn t = false by simpa using List.all_eq_true.1 hall t hm)⟩)
    goes4
end Go.Proofs.YtlhcjccaimmhgaaGreatDoor
