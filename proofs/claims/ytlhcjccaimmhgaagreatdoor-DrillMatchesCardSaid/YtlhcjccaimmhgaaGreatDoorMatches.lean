/-
  DrillMatches: for every measure and every list of points the law returns true, and its arguments read behind the call as before. No condition but the row's own: the tables of Go's library that it lists hold what the program's text lays there.
-/
import Derived.Test.YtlhcjccaimmhgaaGreatDoorFnP
import Derived.Test.YtlhcjccaimmhgaaGreatDoorShared
import Derived.Test.YtlhcjccaimmhgaaGreatDoorHeadB
import Derived.Test.YtlhcjccaimmhgaaGreatDoorCards
set_option linter.unusedSectionVars false
set_option linter.unusedVariables false
set_option linter.unusedSimpArgs false
set_option maxRecDepth 100000
namespace Go.AM
open Go Go.Proofs
variable [Keep]
attribute [local irreducible] W WO WO1 WD WQ WT thenQ blockQ endR isRet retK Cl ClR
attribute [local irreducible] matchS measB matchF
noncomputable def c14 : FuncId → Option (List AV → Heap → Option (AV × Heap))
  | 31 => some (pureFn sp31)
  | 34 => some (pureFn sp34)
  | 65 => some (pureFn sp65)
  | 66 => some (pureFn sp66)
  | f => c25 cK f
theorem ok_pts (hs ps : List Pt) (off : Int) : matchOk hs ps off = (measB hs off && pointsB ps hs.length hs.length 80) := by
  unfold matchOk
  cases hm : measB hs off with
  | false => rfl
  | true =>
    have h1 := meas_len hm
    rw [allB_P]
    rw [Bool.eq_iff_iff]
    simp only [pointsB, inB, Bool.true_and, Bool.and_eq_true, decide_eq_true_eq]
    constructor
    · rintro ⟨a, b, c, d⟩
      exact ⟨b, by omega, by omega⟩
    · rintro ⟨b, c, d⟩
      exact ⟨by omega, b, by omega, by omega⟩
set_option maxHeartbeats 8000000 in
theorem T14 (ca la : AV) (off : Int) (hs ps : List Pt) (hc : isSl ca (hs.map ptC.enc)) (hl : isSl la (ps.map ptC.enc)) : ClR (dX c14) 14 [.agg [ca, .int .i64 off], la] emptyHp (isRet (.bool true)) := by
  have o1 := hc.out
  have o2 := hl.out
  have t1 := hc.tup
  have ln1 : lenS ca = some hs.length := by rw [hc.len, List.length_map]
  have ln2 : lenS la = some ps.length := by rw [hl.len, List.length_map]
  have k25 : ∀ h, Cl (dX c14) 25 [] h (.ret (.bool true) h none) := fun h => K25 rfl h
  by_cases g : (ps.length : Int) > 6 ∨ (hs.length : Int) > 6
  · have hd : decide ((ps.length : Int) > 6) = true ∨ (decide ((ps.length : Int) > 6) = false ∧ decide ((hs.length : Int) > 6) = true) := by
      simp only [decide_eq_true_eq, decide_eq_false_iff_not]
      omega
    clear hc hl g
    refine ClR.walk (c := _) rfl Tryz.func14 rfl (by kernel_rfl) rfl isRet_fail ?_
    simp only [entryEnv, Nat.reduceAdd, emptyHp]
    rcases hd with x1 | ⟨x1, x2⟩
    all_goals (
      repeat' (first | (refine ⟨⟨trivial, trivial⟩, ?_⟩) | (refine ⟨⟨rfl, rfl⟩, ?_⟩) | (refine WQ.cons rfl rfl ?_) | (refine WT.cons rfl rfl ?_) | (refine WQ.nil ?_) | (refine WT.nil ?_; simp only [tN, bN, eN, true_and]) | (apply WQ.alloc; exact rfl; exact rfl; exact payR; simp only [pM, pN]) | refine W.seq ?_ | refine W.region ?_ | refine W.block ?_ | refine W.scope ?_ | refine WO.cons ?_ | (refine WO.nil ?_; simp only [tN, bN, eN, true_and]) | (apply WO1.rd; exact payR; exact rfl; simp only [pM, pN, rR, rP]) | (refine WO1.gyes (b := true) rfl rfl ?_ rfl ?_; exact payD) | (refine WO1.gno (b := true) rfl rfl ?_ rfl ?_; exact payD; simp only [pM, pN, rR, rP]) | (refine WO1.gyes (b := false) rfl rfl ?_ rfl ?_; exact payD) | (refine WO1.gno (b := false) rfl rfl ?_ rfl ?_; exact payD; simp only [pM, pN, rR, rP]) | (apply WO1.gsplit; exact rfl; exact rfl; exact payR; refine ⟨fun hh => ?_, fun hh => ?_⟩ <;> try simp only [Bool.not_true, Bool.not_false, pM, pN] at hh ⊢) | (apply WO1.call; exact payR; exact payR; (focus (simp only [List.nil_append, List.append_nil]; first | exact k25 _)); simp only [pM, pN, rR, rP]) | (apply WO1.ef; exact rfl; exact payE; simp only [pM, pN, rR, rP]) | (simp only [tP, bP, eP, true_and]) | (refine W.ret ?_; simp only [tR, bR, eR, true_and]) | (refine W.skip ?_; simp only [tN, bN, eN, true_and]) | (refine W.exit ?_; simp only [tX, bS, bO, Nat.reduceBEq, tN, bN]) | (refine W.condT ?_ ?_; exact payD) | (refine W.condF ?_ ?_; exact payD) | (apply W.condB; exact payR; refine ⟨fun hh => ?_, fun hh => ?_⟩))
      all_goals simp only [resV_def (X := dX c14) Tryz.func14, Tryz.results14, resultsV, resultV, go_sem, *, Nat.reduceLT, Int.reduceEq, Int.reduceBEq, Int.reduceLE, Int.reduceLT, Nat.reduceAdd, Nat.reduceBEq, Nat.reduceEqDiff, reduceIte, Nat.reduceLeDiff, Nat.reduceMul, Nat.reduceSub, reduceCtorEq, frzRes, dFrz, frzCells, isRet_ret, tupleOf])
  have hd1 : decide ((ps.length : Int) > 6) = false := decide_eq_false (by omega)
  have hd2 : decide ((hs.length : Int) > 6) = false := decide_eq_false (by omega)
  have v1 : slV ptC ca = some hs := slV_mk hc (by unfold maxL; omega)
  have v2 : slV ptC la = some ps := slV_mk hl (by unfold maxL; omega)
  have k31 : ∀ h, Cl (dX c14) 31 [.agg [ca, .int .i64 off]] h (.ret (.bool (measB hs off)) h none) := fun h => Cl.intr (g := pureFn sp31) rfl (by simp [pureFn, AV.pur, AV.purL, sl_pur v1, sp31, v1])
  have k65 : ∀ h, Cl (dX c14) 65 [.agg [ca, .int .i64 off]] h (.ret (.int .i64 (if measB hs off then 0 else 2)) h none) := fun h => Cl.intr (g := pureFn sp65) rfl (by simp [pureFn, AV.pur, AV.purL, sl_pur v1, sp65, v1])
  have k28 : ∀ h, Cl (dX c14) 28 [la, .int .i64 ↑hs.length, .int .i64 ↑hs.length, .int .i64 80] h (.ret (.bool (pointsB ps hs.length hs.length 80)) h none) := fun h => K28 rfl la ps _ _ 80 v2 h
  have k34 : ∀ h, Cl (dX c14) 34 [.agg [ca, .int .i64 off], la] h (.ret (matchF hs ps off) h none) := fun h => Cl.intr (g := pureFn sp34) rfl (by simp [pureFn, AV.pur, AV.purL, sl_pur v1, sl_pur v2, sp34, v1, v2])
  have hmf : matchF hs ps off = if measB hs off && pointsB ps hs.length hs.length 80 then matchR (matchS off hs ps) else .tuple [.int .i64 0, .nilslice, .int .i64 2] := by
    rw [← ok_pts]
    unfold matchF
    rfl
  rw [hmf] at k34
  have k66' : measB hs off = true → pointsB ps hs.length hs.length 80 = true → ∀ h, Cl (dX c14) 66 [.agg [ca, .int .i64 off], la] h (.ret (refV (matchS off hs ps)) h none) := fun e1 e2 h => Cl.intr (g := pureFn sp66) rfl (by
    have h1 := meas_len e1
    simp only [pointsB, inB, Bool.and_eq_true, decide_eq_true_eq] at e2
    have h2 : hs.length = ps.length := by omega
    have h3 : 1 ≤ ps.length ∧ ps.length ≤ 4 := by omega
    simp [pureFn, AV.pur, AV.purL, sl_pur v1, sl_pur v2, sp66, v1, v2, h2, h3])
  have ho8 : ∀ (t : Nat) (o : List Nat), matchS off hs ps = some (t, o) → slV intC (slN (natsV o)) = some (o.map fun k : Nat => (k : Int)) := fun t o hm => by
    obtain ⟨_, q2, _⟩ := match_some hm
    rw [natsV_ints]
    exact slV_slN (by rw [List.length_map, q2.len]; unfold maxL; omega)
  have a0 : ((0 : Int) != 0) = false := rfl
  have a2 : ((2 : Int) != 2) = false := rfl
  have b0 : ((0 : Int) == 0) = true := rfl
  have b2 : ((2 : Int) == 2) = true := rfl
  have b5 : ((5 : Int) == 5) = true := rfl
  have bt : (true && true) = true := rfl
  have l0 : lenS .nilslice = some 0 := rfl
  have bz : (((0 : Nat) : Int) == (0 : Int)) = true := rfl
  clear hc hl g v1 v2 hmf
  generalize measB hs off = b1 at *
  generalize pointsB ps hs.length hs.length 80 = b2' at *
  generalize matchS off hs ps = ms at *
  refine ClR.walk (c := _) rfl Tryz.func14 rfl (by kernel_rfl) rfl isRet_fail ?_
  simp only [entryEnv, Nat.reduceAdd, emptyHp]
  by_cases hall : b1 = true ∧ b2' = true
  · obtain ⟨rfl, rfl⟩ := hall
    have k66 := k66' rfl rfl
    simp only [Bool.and_self, if_true] at k34 k65
    clear k66'
    cases ms with
    | none =>
      simp only [matchR, refV] at k34 k66
      have hneg : decide ((-1 : Int) < 0) = true := rfl
      clear ho8
      repeat' (first | (refine ⟨⟨trivial, trivial⟩, ?_⟩) | (refine ⟨⟨rfl, rfl⟩, ?_⟩) | (refine WQ.cons rfl rfl ?_) | (refine WT.cons rfl rfl ?_) | (refine WQ.nil ?_) | (refine WT.nil ?_; simp only [tN, bN, eN, true_and]) | (apply WQ.alloc; exact rfl; exact rfl; exact payR; simp only [pM, pN]) | refine W.seq ?_ | refine W.region ?_ | refine W.block ?_ | refine W.scope ?_ | refine WO.cons ?_ | (refine WO.nil ?_; simp only [tN, bN, eN, true_and]) | (apply WO1.rd; exact payR; exact rfl; simp only [pM, pN, rR, rP]) | (refine WO1.gyes (b := true) rfl rfl ?_ rfl ?_; exact payD) | (refine WO1.gno (b := true) rfl rfl ?_ rfl ?_; exact payD; simp only [pM, pN, rR, rP]) | (refine WO1.gyes (b := false) rfl rfl ?_ rfl ?_; exact payD) | (refine WO1.gno (b := false) rfl rfl ?_ rfl ?_; exact payD; simp only [pM, pN, rR, rP]) | (apply WO1.gsplit; exact rfl; exact rfl; exact payR; refine ⟨fun hh => ?_, fun hh => ?_⟩ <;> try simp only [Bool.not_true, Bool.not_false, pM, pN] at hh ⊢) | (apply WO1.call; exact payR; exact payR; (focus (simp only [List.nil_append, List.append_nil]; first | exact k31 _ | exact k65 _ | exact k28 _ | exact k34 _ | exact k66 _ | exact k25 _)); simp only [pM, pN, rR, rP]) | (apply WO1.ef; exact rfl; exact payE; simp only [pM, pN, rR, rP]) | (simp only [tP, bP, eP, true_and]) | (refine W.ret ?_; simp only [tR, bR, eR, true_and]) | (refine W.skip ?_; simp only [tN, bN, eN, true_and]) | (refine W.exit ?_; simp only [tX, bS, bO, Nat.reduceBEq, tN, bN]) | (refine W.condT ?_ ?_; exact payD) | (refine W.condF ?_ ?_; exact payD) | (apply W.condB; exact payR; refine ⟨fun hh => ?_, fun hh => ?_⟩))
      all_goals simp only [resV_def (X := dX c14) Tryz.func14, Tryz.results14, resultsV, resultV, go_sem, *, Nat.reduceLT, Int.reduceEq, Int.reduceBEq, Int.reduceLE, Int.reduceLT, Nat.reduceAdd, Nat.reduceBEq, Nat.reduceEqDiff, reduceIte, Nat.reduceLeDiff, Nat.reduceMul, Nat.reduceSub, reduceCtorEq, frzRes, dFrz, frzCells, isRet_ret, tupleOf]
    | some m =>
      obtain ⟨t, o⟩ := m
      have hso := ho8 t o rfl
      have k53 : ∀ h, Cl (dX c14) 53 [slN (natsV o), slN (natsV o)] h (.ret (.bool true) h none) := fun h => by
        have := K53 (X := dX c14) rfl (slN (natsV o)) (slN (natsV o)) _ _ hso hso h
        simpa using this
      simp only [matchR, refV] at k34 k66
      have hneg : decide ((t : Int) < 0) = false := decide_eq_false (by omega)
      have htt : ((t : Int) == (t : Int)) = true := by simp
      obtain ⟨x1, x2, _⟩ := slN_nats o
      clear ho8 hso
      generalize slN (natsV o) = w at *
      repeat' (first | (refine ⟨⟨trivial, trivial⟩, ?_⟩) | (refine ⟨⟨rfl, rfl⟩, ?_⟩) | (refine WQ.cons rfl rfl ?_) | (refine WT.cons rfl rfl ?_) | (refine WQ.nil ?_) | (refine WT.nil ?_; simp only [tN, bN, eN, true_and]) | (apply WQ.alloc; exact rfl; exact rfl; exact payR; simp only [pM, pN]) | refine W.seq ?_ | refine W.region ?_ | refine W.block ?_ | refine W.scope ?_ | refine WO.cons ?_ | (refine WO.nil ?_; simp only [tN, bN, eN, true_and]) | (apply WO1.rd; exact payR; exact rfl; simp only [pM, pN, rR, rP]) | (refine WO1.gyes (b := true) rfl rfl ?_ rfl ?_; exact payD) | (refine WO1.gno (b := true) rfl rfl ?_ rfl ?_; exact payD; simp only [pM, pN, rR, rP]) | (refine WO1.gyes (b := false) rfl rfl ?_ rfl ?_; exact payD) | (refine WO1.gno (b := false) rfl rfl ?_ rfl ?_; exact payD; simp only [pM, pN, rR, rP]) | (apply WO1.gsplit; exact rfl; exact rfl; exact payR; refine ⟨fun hh => ?_, fun hh => ?_⟩ <;> try simp only [Bool.not_true, Bool.not_false, pM, pN] at hh ⊢) | (apply WO1.call; exact payR; exact payR; (focus (simp only [List.nil_append, List.append_nil]; first | exact k31 _ | exact k65 _ | exact k28 _ | exact k34 _ | exact k66 _ | exact k53 _ | exact k25 _)); simp only [pM, pN, rR, rP]) | (apply WO1.ef; exact rfl; exact payE; simp only [pM, pN, rR, rP]) | (simp only [tP, bP, eP, true_and]) | (refine W.ret ?_; simp only [tR, bR, eR, true_and]) | (refine W.skip ?_; simp only [tN, bN, eN, true_and]) | (refine W.exit ?_; simp only [tX, bS, bO, Nat.reduceBEq, tN, bN]) | (refine W.condT ?_ ?_; exact payD) | (refine W.condF ?_ ?_; exact payD) | (apply W.condB; exact payR; refine ⟨fun hh => ?_, fun hh => ?_⟩))
      all_goals simp only [resV_def (X := dX c14) Tryz.func14, Tryz.results14, resultsV, resultV, go_sem, *, Nat.reduceLT, Int.reduceEq, Int.reduceBEq, Int.reduceLE, Int.reduceLT, Nat.reduceAdd, Nat.reduceBEq, Nat.reduceEqDiff, reduceIte, Nat.reduceLeDiff, Nat.reduceMul, Nat.reduceSub, reduceCtorEq, frzRes, dFrz, frzCells, isRet_ret, tupleOf]
  · have hf : (b1 && b2') = false := by
      cases b1 <;> cases b2' <;> simp at hall ⊢
    rw [hf] at k34
    simp only [Bool.false_eq_true, if_false] at k34
    have hd : b1 = false ∨ (b1 = true ∧ b2' = false) := by
      cases b1 <;> cases b2' <;> simp at hall ⊢
    clear hall hf k66' ho8
    rcases hd with rfl | ⟨rfl, rfl⟩
    all_goals simp only [Bool.false_eq_true, if_false, if_true] at k65
    all_goals (
      repeat' (first | (refine ⟨⟨trivial, trivial⟩, ?_⟩) | (refine ⟨⟨rfl, rfl⟩, ?_⟩) | (refine WQ.cons rfl rfl ?_) | (refine WT.cons rfl rfl ?_) | (refine WQ.nil ?_) | (refine WT.nil ?_; simp only [tN, bN, eN, true_and]) | (apply WQ.alloc; exact rfl; exact rfl; exact payR; simp only [pM, pN]) | refine W.seq ?_ | refine W.region ?_ | refine W.block ?_ | refine W.scope ?_ | refine WO.cons ?_ | (refine WO.nil ?_; simp only [tN, bN, eN, true_and]) | (apply WO1.rd; exact payR; exact rfl; simp only [pM, pN, rR, rP]) | (refine WO1.gyes (b := true) rfl rfl ?_ rfl ?_; exact payD) | (refine WO1.gno (b := true) rfl rfl ?_ rfl ?_; exact payD; simp only [pM, pN, rR, rP]) | (refine WO1.gyes (b := false) rfl rfl ?_ rfl ?_; exact payD) | (refine WO1.gno (b := false) rfl rfl ?_ rfl ?_; exact payD; simp only [pM, pN, rR, rP]) | (apply WO1.gsplit; exact rfl; exact rfl; exact payR; refine ⟨fun hh => ?_, fun hh => ?_⟩ <;> try simp only [Bool.not_true, Bool.not_false, pM, pN] at hh ⊢) | (apply WO1.call; exact payR; exact payR; (focus (simp only [List.nil_append, List.append_nil]; first | exact k31 _ | exact k65 _ | exact k28 _ | exact k34 _ | exact k25 _)); simp only [pM, pN, rR, rP]) | (apply WO1.ef; exact rfl; exact payE; simp only [pM, pN, rR, rP]) | (simp only [tP, bP, eP, true_and]) | (refine W.ret ?_; simp only [tR, bR, eR, true_and]) | (refine W.skip ?_; simp only [tN, bN, eN, true_and]) | (refine W.exit ?_; simp only [tX, bS, bO, Nat.reduceBEq, tN, bN]) | (refine W.condT ?_ ?_; exact payD) | (refine W.condF ?_ ?_; exact payD) | (apply W.condB; exact payR; refine ⟨fun hh => ?_, fun hh => ?_⟩))
      all_goals simp only [resV_def (X := dX c14) Tryz.func14, Tryz.results14, resultsV, resultV, go_sem, *, Nat.reduceLT, Int.reduceEq, Int.reduceBEq, Int.reduceLE, Int.reduceLT, Nat.reduceAdd, Nat.reduceBEq, Nat.reduceEqDiff, reduceIte, Nat.reduceLeDiff, Nat.reduceMul, Nat.reduceSub, reduceCtorEq, frzRes, dFrz, frzCells, isRet_ret, tupleOf])
end Go.AM
set_option maxRecDepth 100000
namespace Go.AM
open Go Go.Proofs
variable [Keep]
theorem ag33 : isAggT Tryz.prog 33 = true := by simp [isAggT, Tryz.underlying33]
theorem Sh.meas {n : Nat} {xs : List AV} (h : Sh Tryz.prog (n + 4) 33 xs) : ∃ (a : AV) (l : List Pt) (off : Int), xs = [a, .int .i64 off] ∧ isSl a (l.map ptC.enc) := by
  obtain ⟨x1, y1, rfl, h1, x2, y2, rfl, h2, rfl⟩ := Sh.struct Tryz.underlying33 h
  obtain ⟨a, l, rfl, hl⟩ := Sh.pts h1
  obtain ⟨off, rfl⟩ := Sh.i64 h2
  exact ⟨a, l, off, rfl, hl⟩
end Go.AM
set_option maxRecDepth 100000
namespace Go.AM
open Go Go.Proofs
variable [Keep]
theorem c14_sound (hT : TabK Tryz.prog) : Sound (dX c14) := dX_sound (fun f g h => by
  unfold c14 at h
  split at h
  · cases h; exact F31
  · cases h; exact F34
  · cases h; exact F65
  · cases h; exact F66
  · exact (c25_sound hT).intr f g h)
end Go.AM
namespace Go.Proofs.YtlhcjccaimmhgaaGreatDoor
open Go Go.AM Go.ChangeShapes Go.WideShapes Go.ChangeAt Go.RowKit
theorem law14 [Keep] (hT : TabK Tryz.prog) (avs : List AV) (h : ArgsOk Tryz.prog Tryz.f14.params.toList avs) : ∃ X, X.P = Tryz.prog ∧ Sound X ∧ ∃ h', Cl X 14 avs emptyHp (.ret (.bool true) h' none) := by
  rw [Tryz.params14] at h
  rcases h with _ | ⟨k1, _ | ⟨k2, _ | _⟩⟩
  obtain ⟨ca, hs, off, rfl, hc⟩ := Sh.meas k1
  obtain ⟨la, ps, rfl, hl⟩ := Sh.pts k2
  rw [ag33, ag22]
  exact ⟨dX c14, rfl, c14_sound hT, (T14 ca la off hs ps hc hl).gives⟩
theorem drillMatches_lifted (os : Os) (started : os.Started) (H : Type) (enc : TypeId × Value → H) :
    ReturnsInHanded {} Tryz.checked os 14 .any (fun w args => (Rows.drillMatchesSpec.pre enc Tryz.prog Tryz.f14 Rows.drillMatchesRow.domain false w args ∧ laidMetH Tryz.prog laidL w) ∧ sizedMet enc Tryz.prog Tryz.f14 (OpenSpec.ofChange Rows.drillMatchesSpec) false w args)
      (Rows.drillMatchesSpec.post enc Tryz.prog Tryz.f14 false true false false) := by
  refine returnsInHanded_of_change_and (C := Tryz.checked) (X := fun w _ => laidMetH Tryz.prog laidL w) (fun _ _ _ hh h => h.of_heap hh) own started (by kernel_rfl) Tryz.func14
    (ChangeSpec.witness_shaped (enc := enc) (C := Tryz.checked) (os := os) (X := fun w _ => laidMetH Tryz.prog laidL w) false (World.laidAll Tryz.prog os laidL) #[.agg #[.slice none 0 0, .int .i64 0], .slice none 0 0] 8 (World.laidAll_os _ _ _)
      (World.shaped_of_ZipB (by kernel_rfl) (by kernel_rfl)) (by kernel_rfl) (by kernel_rfl) (by kernel_rfl)
      (by rw [MakeChecks.laidMetH_plain _ _ _ (by kernel_rfl)]; exact laidMet_laidAll _ (by kernel_rfl) (by kernel_rfl))) ?_
  intro W base args ds gs before hval hW _ _ hL _
  exact lawHolds Tryz.func14 (by kernel_rfl) rfl (fun ds hd => by
    match ds, hd with
    | [d1, d2], _ => rfl) (by rw [Tryz.params14]; intro t ht; simp at ht; rcases ht with rfl | rfl <;> kernel_rfl) (by rw [Tryz.params14]; intro t ht; simp at ht; rcases ht with rfl | rfl <;> exact ⟨by kernel_rfl, of_decide_eq_true (by kernel_rfl)⟩)
    (fun hT avs h => law14 hT avs h) W base args ds gs before hval hW hL
theorem in14 : (Rows.drillMatchesRow.inPlace == Tryz.prog.inPlace 14) = true := by kernel_rfl
theorem unf14 : (Rows.drillMatchesRow.unfollowed == Tryz.prog.unfollowed 14) = true := by kernel_rfl
theorem rec14 : (Rows.drillMatchesRow.recurses == Tryz.prog.recurses 14) = true := by kernel_rfl
theorem nam14 : (Rows.drillMatchesRow.named == Tryz.prog.varsNamed 14) = true := by kernel_rfl
theorem closed14 : joinedFacts Tryz.prog 14 Tryz.f14 Rows.drillMatchesSpec Rows.drillMatchesRow = true := by
  unfold joinedFacts
  rw [enter_ok, lifts_ok, make_ok]
  repeat' (with_reducible apply and_mk)
  all_goals (first | with_reducible exact laidOut | with_reducible exact rowed | with_reducible exact in14 | with_reducible exact unf14 | with_reducible exact rec14 | with_reducible exact nam14 | kernel_rfl)
theorem drillMatches_holds : Rows.DrillMatchesSaid :=
  OpenClaim.holds_of_wide 14 Tryz.f14 rfl rfl rfl rfl rfl rfl rfl ⟨rfl, rfl, rfl, rfl, rfl⟩ rfl rfl rfl rfl rfl (by kernel_rfl) Tryz.func14 closed14
    (of_decide_eq_true (by kernel_rfl)) (by unfold Func.isWrapper; rw [if_neg (of_decide_eq_false (by kernel_rfl))]; exact ⟨rfl, rfl⟩)
    (fun os started H enc _ => drillMatches_lifted os started H enc)
theorem goes14 : false = Rows.drillMatchesRow.goesBy Tryz.prog := by kernel_rfl
theorem drillMatches_card : Rows.DrillMatchesCardSaid :=
  Claim7.holds_tied_plain_at .later [] [.data, .data, .data] true (true, "b61a08fa8ce36e10ae208529fc07d9da226449fa0c1a03ee5c8317728ea357ba") true drillMatches_holds (fun _ h => by cases h) (by kernel_rfl) (fun _ h => by cases h) drillMatches_row_tie rfl ⟨rfl, rfl⟩ main_ok rfl
    (fun f fn hf hfn => by
      obtain rfl : f = 14 := Option.some.inj ((show Tryz.prog.funcNamed "nacre/nacrelaw02.DrillMatches" = some 14 by kernel_rfl).symm.trans hf) |>.symm
      obtain rfl : fn = Tryz.f14 := (Option.some.inj (Tryz.func14.symm.trans hfn)).symm
      exact ⟨looks_ok, fun j t ht => by
        rw [Tryz.params14] at ht
        have hm : t ∈ [33, 22] := by simpa using Array.mem_of_getElem? ht
        have hall : ([33, 22].all fun u => !Tryz.prog.wantsStandIn u) = true := by kernel_rfl
        exact (show Tryz.prog.wantsStandIn t = false by simpa using List.all_eq_true.1 hall t hm)⟩)
    goes14
end Go.Proofs.YtlhcjccaimmhgaaGreatDoor
