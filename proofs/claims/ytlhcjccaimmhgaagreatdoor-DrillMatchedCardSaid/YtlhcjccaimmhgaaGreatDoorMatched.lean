/-
  DrillMatched: for every measure, every list of points, every proposed turn and order the law returns true, and its arguments read behind the call as before. No condition but the row's own: the tables of Go's library that it lists hold what the program's text lays there.
-/
import Derived.Test.YtlhcjccaimmhgaaGreatDoorFnO
import Derived.Test.YtlhcjccaimmhgaaGreatDoorShared
import Derived.Test.YtlhcjccaimmhgaaGreatDoorDecl
import Derived.Test.YtlhcjccaimmhgaaGreatDoorHeadB
import Derived.Test.YtlhcjccaimmhgaaGreatDoorCards
set_option linter.unusedSectionVars false
set_option linter.unusedVariables false
set_option linter.unusedSimpArgs false
set_option maxRecDepth 100000
namespace Go.AM
open Go Go.Proofs
variable [Keep]
attribute [local irreducible] W WO WO1 WD WQ WT thenQ blockQ endR isRet retK Cl ClR
attribute [local irreducible] matchS measB orderB accB befB
section
variable {X : Ctx} {ops : Array Oper} {K P : AV → Fr → Prop} {F : Fr} {d : Option Tmp} {op : Op} {T : TypeId} {p : String} {af : Array Edge} {j : Nat} {want : Bool} {o : Oper} {t : Tmp}
theorem WO1.gun (ho : ops[j]? = some o) (ht : o.dst = some t) (hb : F.e.get t = some undefA) (h : K undefA (F.put d undefA)) : WO1 X ops ⟨d, op, T, p, af, some (j, want)⟩ F K P := by
  have hg : guardOk ops F ⟨d, op, T, p, af, some (j, want)⟩ = true := by simp [guardOk, ho, ht, hb, undefA]
  have hw : wantedA ops F ⟨d, op, T, p, af, some (j, want)⟩ = false := by simp [wantedA, yieldedA, ho, ht, hb, undefA]
  unfold WO1
  exact ⟨.val undefA (F.put d undefA), ⟨0, fun m _ => by simp [stepOp, hg, hw]⟩, h⟩
end
noncomputable def c5 : FuncId → Option (List AV → Heap → Option (AV × Heap))
  | 31 => some (pureFn sp31)
  | 34 => some (pureFn sp34)
  | 35 => some (pureFn sp35)
  | 36 => some (pureFn sp36)
  | 37 => some (pureFn sp37)
  | f => c25 cK f
set_option maxHeartbeats 8000000 in
theorem T5 (ca la oa : AV) (off turn : Int) (hs ps : List Pt) (os : List Int) (hc : isSl ca (hs.map ptC.enc)) (hl : isSl la (ps.map ptC.enc)) (ho : isSl oa (os.map intC.enc)) : ClR (dX c5) 5 [.agg [ca, .int .i64 off], la, .int .i64 turn, oa] emptyHp (isRet (.bool true)) := by
  have o1 := hc.out
  have o2 := hl.out
  have o3 := ho.out
  have t1 := hc.tup
  have ln1 : lenS ca = some hs.length := by rw [hc.len, List.length_map]
  have ln2 : lenS la = some ps.length := by rw [hl.len, List.length_map]
  have ln3 : lenS oa = some os.length := by rw [ho.len, List.length_map]
  have k25 : ∀ h, Cl (dX c5) 25 [] h (.ret (.bool true) h none) := fun h => K25 rfl h
  by_cases g : (ps.length : Int) > 6 ∨ (hs.length : Int) > 6 ∨ (os.length : Int) > 6
  · have hd : decide ((ps.length : Int) > 6) = true ∨ (decide ((ps.length : Int) > 6) = false ∧ decide ((hs.length : Int) > 6) = true) ∨ (decide ((ps.length : Int) > 6) = false ∧ decide ((hs.length : Int) > 6) = false ∧ decide ((os.length : Int) > 6) = true) := by
      simp only [decide_eq_true_eq, decide_eq_false_iff_not]
      omega
    clear hc hl ho g
    refine ClR.walk (c := _) rfl Tryz.func5 rfl (by kernel_rfl) rfl isRet_fail ?_
    simp only [entryEnv, Nat.reduceAdd, emptyHp]
    rcases hd with x1 | ⟨x1, x2⟩ | ⟨x1, x2, x3⟩
    all_goals (
      repeat' (first | (refine ⟨⟨trivial, trivial⟩, ?_⟩) | (refine ⟨⟨rfl, rfl⟩, ?_⟩) | (refine WQ.cons rfl rfl ?_) | (refine WT.cons rfl rfl ?_) | (refine WQ.nil ?_) | (refine WT.nil ?_; simp only [tN, bN, eN, true_and]) | (apply WQ.alloc; exact rfl; exact rfl; exact payR; simp only [pM, pN]) | refine W.seq ?_ | refine W.region ?_ | refine W.block ?_ | refine W.scope ?_ | refine WO.cons ?_ | (refine WO.nil ?_; simp only [tN, bN, eN, true_and]) | (apply WO1.rd; exact payR; exact rfl; simp only [pM, pN, rR, rP]) | (refine WO1.gyes (b := true) rfl rfl ?_ rfl ?_; exact payD) | (refine WO1.gno (b := true) rfl rfl ?_ rfl ?_; exact payD; simp only [pM, pN, rR, rP]) | (refine WO1.gyes (b := false) rfl rfl ?_ rfl ?_; exact payD) | (refine WO1.gno (b := false) rfl rfl ?_ rfl ?_; exact payD; simp only [pM, pN, rR, rP]) | (apply WO1.gsplit; exact rfl; exact rfl; exact payR; refine ⟨fun hh => ?_, fun hh => ?_⟩ <;> try simp only [Bool.not_true, Bool.not_false, pM, pN] at hh ⊢) | (apply WO1.call; exact payR; exact payR; (focus (simp only [List.nil_append, List.append_nil]; first | exact k25 _)); simp only [pM, pN, rR, rP]) | (apply WO1.ef; exact rfl; exact payE; simp only [pM, pN, rR, rP]) | (simp only [tP, bP, eP, true_and]) | (refine W.ret ?_; simp only [tR, bR, eR, true_and]) | (refine W.skip ?_; simp only [tN, bN, eN, true_and]) | (refine W.exit ?_; simp only [tX, bS, bO, Nat.reduceBEq, tN, bN]) | (refine W.condT ?_ ?_; exact payD) | (refine W.condF ?_ ?_; exact payD) | (apply W.condB; exact payR; refine ⟨fun hh => ?_, fun hh => ?_⟩))
      all_goals simp only [resV_def (X := dX c5) Tryz.func5, Tryz.results5, resultsV, resultV, go_sem, *, Nat.reduceLT, Int.reduceEq, Int.reduceBEq, Int.reduceLE, Int.reduceLT, Nat.reduceAdd, Nat.reduceBEq, Nat.reduceEqDiff, reduceIte, Nat.reduceLeDiff, Nat.reduceMul, Nat.reduceSub, reduceCtorEq, frzRes, dFrz, frzCells, isRet_ret, tupleOf])
  have hd1 : decide ((ps.length : Int) > 6) = false := decide_eq_false (by omega)
  have hd2 : decide ((hs.length : Int) > 6) = false := decide_eq_false (by omega)
  have hd3 : decide ((os.length : Int) > 6) = false := decide_eq_false (by omega)
  have v1 : slV ptC ca = some hs := slV_mk hc (by unfold maxL; omega)
  have v2 : slV ptC la = some ps := slV_mk hl (by unfold maxL; omega)
  have v3 : slV intC oa = some os := slV_mk ho (by unfold maxL; omega)
  have k31 : ∀ h, Cl (dX c5) 31 [.agg [ca, .int .i64 off]] h (.ret (.bool (measB hs off)) h none) := fun h => Cl.intr (g := pureFn sp31) rfl (by simp [pureFn, AV.pur, AV.purL, sl_pur v1, sp31, v1])
  have k27 : ∀ h, Cl (dX c5) 27 [.int .i64 turn] h (.ret (.bool (inB turn 0 7)) h none) := fun h => K27 rfl turn h
  have k28 : ∀ h, Cl (dX c5) 28 [la, .int .i64 ↑hs.length, .int .i64 ↑hs.length, .int .i64 80] h (.ret (.bool (pointsB ps hs.length hs.length 80)) h none) := fun h => K28 rfl la ps _ _ 80 v2 h
  have k35 : ∀ h, Cl (dX c5) 35 [oa, .int .i64 ↑ps.length] h (.ret (.bool (orderB os ps.length)) h none) := fun h => Cl.intr (g := pureFn sp35) rfl (by simp [pureFn, AV.pur, AV.purL, sl_pur v3, sp35, v3])
  by_cases hall : measB hs off = true ∧ pointsB ps hs.length hs.length 80 = true ∧ inB turn 0 7 = true ∧ orderB os ps.length = true
  · obtain ⟨m1, m3, m2, m4⟩ := hall
    have hms := meas_len m1
    have hin := m2
    simp only [inB, Bool.and_eq_true, decide_eq_true_eq] at hin
    obtain ⟨s, rfl⟩ : ∃ s : Nat, turn = s := ⟨turn.toNat, by omega⟩
    have hs8 : s < 8 := by omega
    have hpt := m3
    simp only [pointsB, inB, Bool.and_eq_true, decide_eq_true_eq] at hpt
    obtain ⟨hok, hln⟩ := hpt
    have hlen : hs.length = ps.length := by omega
    have hl4 : ps.length ≤ 4 := by omega
    obtain ⟨p, hp, hord⟩ := order_nat hl4 m4
    have hm : matchOk hs ps off = true := by
      unfold matchOk
      rw [m1, allB_P]
      simp only [pointsB, hok, inB, Bool.true_and, Bool.and_eq_true, decide_eq_true_eq]
      omega
    have k34 : ∀ h, Cl (dX c5) 34 [.agg [ca, .int .i64 off], la] h (.ret (matchR (matchS off hs ps)) h none) := fun h => by
      have : Cl (dX c5) 34 [.agg [ca, .int .i64 off], la] h (.ret (matchF hs ps off) h none) := Cl.intr (g := pureFn sp34) rfl (by simp [pureFn, AV.pur, AV.purL, sl_pur v1, sl_pur v2, sp34, v1, v2])
      unfold matchF at this
      rw [if_pos hm] at this
      exact this
    have kag : ∀ (w : AV) (u : Nat) (q : List Nat), u < 8 → slV intC w = some (q.map fun k : Nat => (k : Int)) → IsOrd ps.length q → ∀ h, Cl (dX c5) 36 [la, .int .i64 ↑u, w, ca, .int .i64 off] h (.ret (.bool (accB off hs ps (u : Nat) q)) h none) := fun w u q hu hw hq h => by
      have hg : gd36 hs ps off (u : Nat) (q.map fun k : Nat => (k : Int)) = true := by
        unfold gd36
        rw [m1, m3, nat_order hl4 hq]
        simp only [inB, Bool.true_and, Bool.and_true, Bool.and_eq_true, decide_eq_true_eq]
        omega
      have e := toNat_map q
      exact Cl.intr (g := pureFn sp36) rfl (by
        simp only [pureFn, AV.pur, AV.purL, sl_pur v1, sl_pur v2, sl_pur hw, Bool.and_self, if_true, sp36, v1, v2, hw, hg, e])
    have k36 := kag oa s p hs8 (by rw [v3, hp]) hord
    have hb4 : (measB hs off, pointsB ps hs.length hs.length 80, inB (s : Int) 0 7, orderB os ps.length) = (true, true, true, true) := by rw [m1, m3, m2, m4]
    rw [m1] at k31
    rw [m2] at k27
    rw [m3] at k28
    rw [m4] at k35
    rw [hlen] at k28 hd2 ln1
    have HP := Lib.hid hp
    have HORD := Lib.hid hord
    have HV3 := Lib.hid v3
    have HS8 := Lib.hid hs8
    have HL4 := Lib.hid hl4
    have c0 : ((0 : Int) != 0) = false := rfl
    have c5' : ((5 : Int) != 0) = true := rfl
    have c55 : ((5 : Int) == 5) = true := rfl
    cases hms : matchS off hs ps with
    | none =>
      have hno := match_none hms hs8 hord
      rw [hno] at k36
      rw [hms] at k34
      simp only [matchR] at k34
      clear hc hl ho g v1 v2 v3 m1 m2 m3 m4 hms hin hok hln hlen hm kag hb4 hp hord hs8 hl4 hno
      refine ClR.walk (c := _) rfl Tryz.func5 rfl (by kernel_rfl) rfl isRet_fail ?_
      simp only [entryEnv, Nat.reduceAdd, emptyHp]
      repeat' (first | (refine ⟨⟨trivial, trivial⟩, ?_⟩) | (refine ⟨⟨rfl, rfl⟩, ?_⟩) | (refine WQ.cons rfl rfl ?_) | (refine WT.cons rfl rfl ?_) | (refine WQ.nil ?_) | (refine WT.nil ?_; simp only [tN, bN, eN, true_and]) | (apply WQ.alloc; exact rfl; exact rfl; exact payR; simp only [pM, pN]) | refine W.seq ?_ | refine W.region ?_ | refine W.block ?_ | refine W.scope ?_ | refine WO.cons ?_ | (refine WO.nil ?_; simp only [tN, bN, eN, true_and]) | (apply WO1.rd; exact payR; exact rfl; simp only [pM, pN, rR, rP]) | (refine WO1.gyes (b := true) rfl rfl ?_ rfl ?_; exact payD) | (refine WO1.gno (b := true) rfl rfl ?_ rfl ?_; exact payD; simp only [pM, pN, rR, rP]) | (refine WO1.gyes (b := false) rfl rfl ?_ rfl ?_; exact payD) | (refine WO1.gno (b := false) rfl rfl ?_ rfl ?_; exact payD; simp only [pM, pN, rR, rP]) | (apply WO1.gsplit; exact rfl; exact rfl; exact payR; refine ⟨fun hh => ?_, fun hh => ?_⟩ <;> try simp only [Bool.not_true, Bool.not_false, pM, pN] at hh ⊢) | (apply WO1.call; exact payR; exact payR; (focus (simp only [List.nil_append, List.append_nil]; first | exact k31 _ | exact k28 _ | exact k27 _ | exact k35 _ | exact k34 _ | exact k36 _ | exact k25 _)); simp only [pM, pN, rR, rP]) | (apply WO1.ef; exact rfl; exact payE; simp only [pM, pN, rR, rP]) | (simp only [tP, bP, eP, true_and]) | (refine W.ret ?_; simp only [tR, bR, eR, true_and]) | (refine W.skip ?_; simp only [tN, bN, eN, true_and]) | (refine W.exit ?_; simp only [tX, bS, bO, Nat.reduceBEq, tN, bN]) | (refine W.condT ?_ ?_; exact payD) | (refine W.condF ?_ ?_; exact payD) | (apply W.condB; exact payR; refine ⟨fun hh => ?_, fun hh => ?_⟩))
      all_goals simp only [resV_def (X := dX c5) Tryz.func5, Tryz.results5, resultsV, resultV, go_sem, *, Nat.reduceLT, Int.reduceEq, Int.reduceBEq, Int.reduceLE, Int.reduceLT, Nat.reduceAdd, Nat.reduceBEq, Nat.reduceEqDiff, reduceIte, Nat.reduceLeDiff, Nat.reduceMul, Nat.reduceSub, reduceCtorEq, frzRes, dFrz, frzCells, isRet_ret, tupleOf]
    | some m =>
      obtain ⟨t, o⟩ := m
      obtain ⟨q1, q2, q3, q4⟩ := match_some hms
      rw [hms] at k34
      simp only [matchR] at k34
      have ho8 : slV intC (slN (natsV o)) = some (o.map fun k : Nat => (k : Int)) := by
        rw [natsV_ints]
        exact slV_slN (by rw [List.length_map, q2.len]; unfold maxL; omega)
      have k36b := kag _ t o q1 ho8 q2
      rw [q3] at k36b
      have k27b : ∀ h, Cl (dX c5) 27 [.int .i64 ↑t] h (.ret (.bool true) h none) := fun h => by
        have := K27 (X := dX c5) rfl (t : Int) h
        rw [show inB (t : Int) 0 7 = true by simp only [inB, Bool.and_eq_true, decide_eq_true_eq]; omega] at this
        exact this
      have k35b : ∀ h, Cl (dX c5) 35 [slN (natsV o), .int .i64 ↑ps.length] h (.ret (.bool true) h none) := fun h => by
        have : Cl (dX c5) 35 [slN (natsV o), .int .i64 ↑ps.length] h (.ret (.bool (orderB (o.map fun k : Nat => (k : Int)) ps.length)) h none) := Cl.intr (g := pureFn sp35) rfl (by simp [pureFn, AV.pur, AV.purL, sl_pur ho8, sp35, ho8])
        rw [nat_order hl4 q2] at this
        exact this
      have k37 : ∀ h, Cl (dX c5) 37 [oa, slN (natsV o)] h (.ret (.bool (lexB p o)) h none) := fun h => by
        have : Cl (dX c5) 37 [oa, slN (natsV o)] h (.ret (.bool (befB os (o.map fun k : Nat => (k : Int)))) h none) := Cl.intr (g := pureFn sp37) rfl (by simp [pureFn, AV.pur, AV.purL, sl_pur v3, sl_pur ho8, sp37, v3, ho8])
        rw [hp, bef_lex] at this
        exact this
      have lo : lenS (slN (natsV o)) = some ps.length := by
        rw [(slN_is _).len, natsV_len, q2.len]
      obtain ⟨x1, x2, _⟩ := slN_nats o
      have hfin : accB off hs ps (s : Nat) p = false ∨ (accB off hs ps (s : Nat) p = true ∧ decide ((s : Int) > (t : Int)) = true) ∨ (accB off hs ps (s : Nat) p = true ∧ decide ((s : Int) > (t : Int)) = false ∧ ((s : Int) == (t : Int)) = true ∧ lexB p o = false) := by
        cases ha : accB off hs ps (s : Nat) p with
        | false => exact .inl rfl
        | true =>
          rcases q4 s p hs8 hord ha with q | ⟨q, q'⟩
          · exact .inr (.inl ⟨rfl, decide_eq_true (by omega)⟩)
          · subst q
            exact .inr (.inr ⟨rfl, decide_eq_false (by omega), by simp, q'⟩)
      clear hc hl ho g v1 v2 v3 m1 m2 m3 m4 hms hin hok hln hlen hm kag hb4 hp hord hs8 hl4 q1 q2 q3 q4 ho8
      generalize accB off hs ps (s : Nat) p = is at *
      generalize lexB p o = lb at *
      generalize slN (natsV o) = w at *
      refine ClR.walk (c := _) rfl Tryz.func5 rfl (by kernel_rfl) rfl isRet_fail ?_
      simp only [entryEnv, Nat.reduceAdd, emptyHp]
      rcases hfin with rfl | ⟨rfl, f1⟩ | ⟨rfl, f1, f2, rfl⟩
      all_goals (
        repeat' (first | (refine WO1.gun rfl rfl ?_ ?_; exact payD; simp only [pM, pN, rR, rP]) | (refine ⟨⟨trivial, trivial⟩, ?_⟩) | (refine ⟨⟨rfl, rfl⟩, ?_⟩) | (refine WQ.cons rfl rfl ?_) | (refine WT.cons rfl rfl ?_) | (refine WQ.nil ?_) | (refine WT.nil ?_; simp only [tN, bN, eN, true_and]) | (apply WQ.alloc; exact rfl; exact rfl; exact payR; simp only [pM, pN]) | refine W.seq ?_ | refine W.region ?_ | refine W.block ?_ | refine W.scope ?_ | refine WO.cons ?_ | (refine WO.nil ?_; simp only [tN, bN, eN, true_and]) | (apply WO1.rd; exact payR; exact rfl; simp only [pM, pN, rR, rP]) | (refine WO1.gyes (b := true) rfl rfl ?_ rfl ?_; exact payD) | (refine WO1.gno (b := true) rfl rfl ?_ rfl ?_; exact payD; simp only [pM, pN, rR, rP]) | (refine WO1.gyes (b := false) rfl rfl ?_ rfl ?_; exact payD) | (refine WO1.gno (b := false) rfl rfl ?_ rfl ?_; exact payD; simp only [pM, pN, rR, rP]) | (apply WO1.gsplit; exact rfl; exact rfl; exact payR; refine ⟨fun hh => ?_, fun hh => ?_⟩ <;> try simp only [Bool.not_true, Bool.not_false, pM, pN] at hh ⊢) | (apply WO1.call; exact payR; exact payR; (focus (simp only [List.nil_append, List.append_nil]; first | exact k31 _ | exact k28 _ | exact k27 _ | exact k35 _ | exact k34 _ | exact k36 _ | exact k27b _ | exact k35b _ | exact k36b _ | exact k37 _ | exact k25 _)); simp only [pM, pN, rR, rP]) | (apply WO1.ef; exact rfl; exact payE; simp only [pM, pN, rR, rP]) | (simp only [tP, bP, eP, true_and]) | (refine W.ret ?_; simp only [tR, bR, eR, true_and]) | (refine W.skip ?_; simp only [tN, bN, eN, true_and]) | (refine W.exit ?_; simp only [tX, bS, bO, Nat.reduceBEq, tN, bN]) | (refine W.condT ?_ ?_; exact payD) | (refine W.condF ?_ ?_; exact payD) | (apply W.condB; exact payR; refine ⟨fun hh => ?_, fun hh => ?_⟩))
        all_goals simp only [resV_def (X := dX c5) Tryz.func5, Tryz.results5, resultsV, resultV, go_sem, *, Nat.reduceLT, Int.reduceEq, Int.reduceBEq, Int.reduceLE, Int.reduceLT, Nat.reduceAdd, Nat.reduceBEq, Nat.reduceEqDiff, reduceIte, Nat.reduceLeDiff, Nat.reduceMul, Nat.reduceSub, reduceCtorEq, frzRes, dFrz, frzCells, isRet_ret, tupleOf])
  · clear hc hl ho g v1 v2 v3
    generalize measB hs off = b1 at *
    generalize pointsB ps hs.length hs.length 80 = b2 at *
    generalize inB turn 0 7 = b3 at *
    generalize orderB os ps.length = b4 at *
    have hd : b1 = false ∨ (b1 = true ∧ b2 = false) ∨ (b1 = true ∧ b2 = true ∧ b3 = false) ∨ (b1 = true ∧ b2 = true ∧ b3 = true ∧ b4 = false) := by
      cases b1 <;> cases b2 <;> cases b3 <;> cases b4 <;> simp at hall ⊢
    clear hall
    refine ClR.walk (c := _) rfl Tryz.func5 rfl (by kernel_rfl) rfl isRet_fail ?_
    simp only [entryEnv, Nat.reduceAdd, emptyHp]
    rcases hd with rfl | ⟨rfl, rfl⟩ | ⟨rfl, rfl, rfl⟩ | ⟨rfl, rfl, rfl, rfl⟩
    all_goals (
      repeat' (first | (refine ⟨⟨trivial, trivial⟩, ?_⟩) | (refine ⟨⟨rfl, rfl⟩, ?_⟩) | (refine WQ.cons rfl rfl ?_) | (refine WT.cons rfl rfl ?_) | (refine WQ.nil ?_) | (refine WT.nil ?_; simp only [tN, bN, eN, true_and]) | (apply WQ.alloc; exact rfl; exact rfl; exact payR; simp only [pM, pN]) | refine W.seq ?_ | refine W.region ?_ | refine W.block ?_ | refine W.scope ?_ | refine WO.cons ?_ | (refine WO.nil ?_; simp only [tN, bN, eN, true_and]) | (apply WO1.rd; exact payR; exact rfl; simp only [pM, pN, rR, rP]) | (refine WO1.gyes (b := true) rfl rfl ?_ rfl ?_; exact payD) | (refine WO1.gno (b := true) rfl rfl ?_ rfl ?_; exact payD; simp only [pM, pN, rR, rP]) | (refine WO1.gyes (b := false) rfl rfl ?_ rfl ?_; exact payD) | (refine WO1.gno (b := false) rfl rfl ?_ rfl ?_; exact payD; simp only [pM, pN, rR, rP]) | (apply WO1.gsplit; exact rfl; exact rfl; exact payR; refine ⟨fun hh => ?_, fun hh => ?_⟩ <;> try simp only [Bool.not_true, Bool.not_false, pM, pN] at hh ⊢) | (apply WO1.call; exact payR; exact payR; (focus (simp only [List.nil_append, List.append_nil]; first | exact k31 _ | exact k28 _ | exact k27 _ | exact k35 _ | exact k25 _)); simp only [pM, pN, rR, rP]) | (apply WO1.ef; exact rfl; exact payE; simp only [pM, pN, rR, rP]) | (simp only [tP, bP, eP, true_and]) | (refine W.ret ?_; simp only [tR, bR, eR, true_and]) | (refine W.skip ?_; simp only [tN, bN, eN, true_and]) | (refine W.exit ?_; simp only [tX, bS, bO, Nat.reduceBEq, tN, bN]) | (refine W.condT ?_ ?_; exact payD) | (refine W.condF ?_ ?_; exact payD) | (apply W.condB; exact payR; refine ⟨fun hh => ?_, fun hh => ?_⟩))
      all_goals simp only [resV_def (X := dX c5) Tryz.func5, Tryz.results5, resultsV, resultV, go_sem, *, Nat.reduceLT, Int.reduceEq, Int.reduceBEq, Int.reduceLE, Int.reduceLT, Nat.reduceAdd, Nat.reduceBEq, Nat.reduceEqDiff, reduceIte, Nat.reduceLeDiff, Nat.reduceMul, Nat.reduceSub, reduceCtorEq, frzRes, dFrz, frzCells, isRet_ret, tupleOf])
end Go.AM
set_option maxRecDepth 100000
namespace Go.AM
open Go Go.Proofs
variable [Keep]
theorem ag33 : isAggT Tryz.prog 33 = true := by simp [isAggT, Tryz.underlying33]
theorem Sh.meas {n : Nat} {xs : List AV} (h : Sh Tryz.prog (n + 4) 33 xs) : ∃ (a : AV) (l : List Pt) (off : Int), xs = [a, .int .i64 off] ∧ isSl a (l.map ptC.enc) := by
  obtain ⟨x1, y1, rfl, h1, x2, y2, rfl, h2, rfl⟩ := Sh.struct Tryz.underlying33 h
  obtain ⟨a, l, rfl, hl⟩ := Sh.pts h1
  obtain ⟨off, rfl⟩ := Sh.i64 h2
  exact ⟨a, l, off, rfl, hl⟩
end Go.AM
set_option maxRecDepth 100000
namespace Go.AM
open Go Go.Proofs
variable [Keep]
theorem ag48 : isAggT Tryz.prog 48 = true := by simp [isAggT, Tryz.underlying48]
theorem ag51 : isAggT Tryz.prog 51 = true := by simp [isAggT, Tryz.underlying51]
theorem ag95 : isAggT Tryz.prog 95 = true := by simp [isAggT, Tryz.underlying95]
theorem Sh.sp {n : Nat} {xs : List AV} (h : Sh Tryz.prog (n + 2) 48 xs) : ∃ p : Sp, xs = [.int .i64 p.lo, .int .i64 p.hi] := by
  obtain ⟨x, y, rfl, h1, x2, y2, rfl, h2, rfl⟩ := Sh.struct Tryz.underlying48 h
  obtain ⟨a, rfl⟩ := Sh.i64 h1
  obtain ⟨b, rfl⟩ := Sh.i64 h2
  exact ⟨⟨a, b⟩, rfl⟩
theorem Sh.rdg {n : Nat} {xs : List AV} (h : Sh Tryz.prog (n + 2) 95 xs) : ∃ p : Rdg, xs = [.int .i64 p.b, .int .i64 p.x, .int .i64 p.y, .int .i64 p.err] := by
  obtain ⟨x, y, rfl, h1, x2, y2, rfl, h2, x3, y3, rfl, h3, x4, y4, rfl, h4, rfl⟩ := Sh.struct Tryz.underlying95 h
  obtain ⟨a, rfl⟩ := Sh.i64 h1
  obtain ⟨b, rfl⟩ := Sh.i64 h2
  obtain ⟨c, rfl⟩ := Sh.i64 h3
  obtain ⟨d, rfl⟩ := Sh.i64 h4
  exact ⟨⟨a, b, c, d⟩, rfl⟩
theorem Sh.rdgs {n : Nat} {xs : List AV} (h : Sh Tryz.prog (n + 3) 49 xs) : ∃ (a : AV) (l : List Rdg), xs = [a] ∧ isSl a (l.map rdgC.enc) :=
  Sh.slice rdgC Tryz.underlying49 (fun xs h => by
    obtain ⟨p, rfl⟩ := Sh.rdg h
    exact ⟨p, by rw [ag95]; rfl⟩) h
theorem Sh.mach {n : Nat} {xs : List AV} (h : Sh Tryz.prog (n + 4) 51 xs) : ∃ (sa ra : AV) (cx cy wx wy : Sp) (st : List Pt) (rs : List Rdg),
    xs = [sa, .int .i64 cx.lo, .int .i64 cx.hi, .int .i64 cy.lo, .int .i64 cy.hi, .int .i64 wx.lo, .int .i64 wx.hi, .int .i64 wy.lo, .int .i64 wy.hi, ra] ∧ isSl sa (st.map ptC.enc) ∧ isSl ra (rs.map rdgC.enc) := by
  obtain ⟨x1, y1, rfl, h1, x2, y2, rfl, h2, x3, y3, rfl, h3, x4, y4, rfl, h4, x5, y5, rfl, h5, x6, y6, rfl, h6, rfl⟩ := Sh.struct Tryz.underlying51 h
  obtain ⟨sa, st, rfl, hs⟩ := Sh.pts h1
  obtain ⟨cx, rfl⟩ := Sh.sp h2
  obtain ⟨cy, rfl⟩ := Sh.sp h3
  obtain ⟨wx, rfl⟩ := Sh.sp h4
  obtain ⟨wy, rfl⟩ := Sh.sp h5
  obtain ⟨ra, rs, rfl, hr⟩ := Sh.rdgs h6
  exact ⟨sa, ra, cx, cy, wx, wy, st, rs, rfl, hs, hr⟩
theorem ag39 : isAggT Tryz.prog 39 = false := by simp [isAggT, Tryz.underlying39]
theorem ag109 : isAggT Tryz.prog 109 = true := by simp [isAggT, Tryz.underlying109]
theorem Sh.ints {n : Nat} {xs : List AV} (h : Sh Tryz.prog (n + 2) 39 xs) : ∃ (a : AV) (l : List Int), xs = [a] ∧ isSl a (l.map intC.enc) :=
  Sh.slice intC Tryz.underlying39 (fun xs h => by
    obtain ⟨i, rfl⟩ := Sh.i64 h
    exact ⟨i, by rw [ag3]; rfl⟩) h
theorem Sh.truth {n : Nat} {xs : List AV} (h : Sh Tryz.prog (n + 3) 109 xs) : ∃ (xa ya : AV) (l r : List Int), xs = [xa, ya] ∧ isSl xa (l.map intC.enc) ∧ isSl ya (r.map intC.enc) := by
  obtain ⟨x1, y1, rfl, h1, x2, y2, rfl, h2, rfl⟩ := Sh.struct Tryz.underlying109 h
  obtain ⟨xa, l, rfl, hl⟩ := Sh.ints h1
  obtain ⟨ya, r, rfl, hr⟩ := Sh.ints h2
  exact ⟨xa, ya, l, r, rfl, hl, hr⟩
end Go.AM
set_option maxRecDepth 100000
namespace Go.AM
open Go Go.Proofs
variable [Keep]
theorem c5_sound (hT : TabK Tryz.prog) : Sound (dX c5) := dX_sound (fun f g h => by
  unfold c5 at h
  split at h
  · cases h; exact F31
  · cases h; exact F34
  · cases h; exact F35
  · cases h; exact F36
  · cases h; exact F37
  · exact (c25_sound hT).intr f g h)
end Go.AM
namespace Go.Proofs.YtlhcjccaimmhgaaGreatDoor
open Go Go.AM Go.ChangeShapes Go.WideShapes Go.ChangeAt Go.RowKit
theorem law5 [Keep] (hT : TabK Tryz.prog) (avs : List AV) (h : ArgsOk Tryz.prog Tryz.f5.params.toList avs) : ∃ X, X.P = Tryz.prog ∧ Sound X ∧ ∃ h', Cl X 5 avs emptyHp (.ret (.bool true) h' none) := by
  rw [Tryz.params5] at h
  rcases h with _ | ⟨k1, _ | ⟨k2, _ | ⟨k3, _ | ⟨k4, _ | _⟩⟩⟩⟩
  obtain ⟨ca, hs, off, rfl, hc⟩ := Sh.meas k1
  obtain ⟨la, ps, rfl, hl⟩ := Sh.pts k2
  obtain ⟨n, rfl⟩ := Sh.i64 k3
  obtain ⟨oa, os, rfl, ho⟩ := Sh.ints k4
  rw [ag33, ag22, ag3, ag39]
  exact ⟨dX c5, rfl, c5_sound hT, (T5 ca la oa off n hs ps os hc hl ho).gives⟩
theorem drillMatched_lifted (os : Os) (started : os.Started) (H : Type) (enc : TypeId × Value → H) :
    ReturnsInHanded {} Tryz.checked os 5 .any (fun w args => (Rows.drillMatchedSpec.pre enc Tryz.prog Tryz.f5 Rows.drillMatchedRow.domain false w args ∧ laidMetH Tryz.prog laidL w) ∧ sizedMet enc Tryz.prog Tryz.f5 (OpenSpec.ofChange Rows.drillMatchedSpec) false w args)
      (Rows.drillMatchedSpec.post enc Tryz.prog Tryz.f5 false true false false) := by
  refine returnsInHanded_of_change_and (C := Tryz.checked) (X := fun w _ => laidMetH Tryz.prog laidL w) (fun _ _ _ hh h => h.of_heap hh) own started (by kernel_rfl) Tryz.func5
    (ChangeSpec.witness_shaped (enc := enc) (C := Tryz.checked) (os := os) (X := fun w _ => laidMetH Tryz.prog laidL w) false (World.laidAll Tryz.prog os laidL) #[.agg #[.slice none 0 0, .int .i64 0], .slice none 0 0, .int .i64 0, .slice none 0 0] 8 (World.laidAll_os _ _ _)
      (World.shaped_of_ZipB (by kernel_rfl) (by kernel_rfl)) (by kernel_rfl) (by kernel_rfl) (by kernel_rfl)
      (by rw [MakeChecks.laidMetH_plain _ _ _ (by kernel_rfl)]; exact laidMet_laidAll _ (by kernel_rfl) (by kernel_rfl))) ?_
  intro W base args ds gs before hval hW _ _ hL _
  exact lawHolds Tryz.func5 (by kernel_rfl) rfl (fun ds hd => by
    match ds, hd with
    | [d1, d2, d3, d4], _ => rfl) (by rw [Tryz.params5]; intro t ht; simp at ht; rcases ht with rfl | rfl | rfl | rfl <;> kernel_rfl) (by rw [Tryz.params5]; intro t ht; simp at ht; rcases ht with rfl | rfl | rfl | rfl <;> exact ⟨by kernel_rfl, of_decide_eq_true (by kernel_rfl)⟩)
    (fun hT avs h => law5 hT avs h) W base args ds gs before hval hW hL
theorem in5 : (Rows.drillMatchedRow.inPlace == Tryz.prog.inPlace 5) = true := by kernel_rfl
theorem unf5 : (Rows.drillMatchedRow.unfollowed == Tryz.prog.unfollowed 5) = true := by kernel_rfl
theorem rec5 : (Rows.drillMatchedRow.recurses == Tryz.prog.recurses 5) = true := by kernel_rfl
theorem nam5 : (Rows.drillMatchedRow.named == Tryz.prog.varsNamed 5) = true := by kernel_rfl
theorem closed5 : joinedFacts Tryz.prog 5 Tryz.f5 Rows.drillMatchedSpec Rows.drillMatchedRow = true := by
  unfold joinedFacts
  rw [enter_ok, lifts_ok, make_ok]
  repeat' (with_reducible apply and_mk)
  all_goals (first | with_reducible exact laidOut | with_reducible exact rowed | with_reducible exact in5 | with_reducible exact unf5 | with_reducible exact rec5 | with_reducible exact nam5 | kernel_rfl)
theorem drillMatched_holds : Rows.DrillMatchedSaid :=
  OpenClaim.holds_of_wide 5 Tryz.f5 rfl rfl rfl rfl rfl rfl rfl ⟨rfl, rfl, rfl, rfl, rfl⟩ rfl rfl rfl rfl rfl (by kernel_rfl) Tryz.func5 closed5
    (of_decide_eq_true (by kernel_rfl)) (by unfold Func.isWrapper; rw [if_neg (of_decide_eq_false (by kernel_rfl))]; exact ⟨rfl, rfl⟩)
    (fun os started H enc _ => drillMatched_lifted os started H enc)
theorem goes5 : false = Rows.drillMatchedRow.goesBy Tryz.prog := by kernel_rfl
theorem drillMatched_card : Rows.DrillMatchedCardSaid :=
  Claim7.holds_tied_plain_at .later [] [.data, .data, .data] true (true, "b61a08fa8ce36e10ae208529fc07d9da226449fa0c1a03ee5c8317728ea357ba") true drillMatched_holds (fun _ h => by cases h) (by kernel_rfl) (fun _ h => by cases h) drillMatched_row_tie rfl ⟨rfl, rfl⟩ main_ok rfl
    (fun f fn hf hfn => by
      obtain rfl : f = 5 := Option.some.inj ((show Tryz.prog.funcNamed "nacre/nacrelaw02.DrillMatched" = some 5 by kernel_rfl).symm.trans hf) |>.symm
      obtain rfl : fn = Tryz.f5 := (Option.some.inj (Tryz.func5.symm.trans hfn)).symm
      exact ⟨looks_ok, fun j t ht => by
        rw [Tryz.params5] at ht
        have hm : t ∈ [33, 22, 3, 39] := by simpa using Array.mem_of_getElem? ht
        have hall : ([33, 22, 3, 39].all fun u => !Tryz.prog.wantsStandIn u) = true := by kernel_rfl
        exact (show Tryz.prog.wantsStandIn t = false by simpa using List.all_eq_true.1 hall t hm)⟩)
    goes5
end Go.Proofs.YtlhcjccaimmhgaaGreatDoor
