/-
  Texts of the proof: an evaluator of the program's code, its soundness, contracts of functions.
-/
import Derived.Test.YtlhcjccaimmhgaaGreatDoorQAS
set_option linter.unusedSectionVars false
set_option linter.unusedVariables false
set_option linter.unusedSimpArgs false
set_option maxRecDepth 100000
namespace Go.AM
open Go Go.Proofs
variable [Keep]
attribute [local irreducible] W WO WO1 WD WQ WT thenQ blockQ endR isRet retK Cl ClR
attribute [local irreducible] roundQ RdR clR boundsS machB boxL suitB fitsM truthB orderB prvL butB possB
theorem z38 : zeroT Tryz.prog 38 = some (.agg [.int .i64 0, .int .i64 0]) := by kernel_rfl
theorem mk22 {f : FuncId} {rnd : Bool} {e : Mp AV} {lm : Mp (Nat × List AV)} {hp : Heap} {df : List (AV × List AV)} {up : Option (AV × Bool)} {l c : Operand} {n : Nat} (h1 : (Fr.mk f rnd e lm hp df up).opv l = some (.int .i64 n)) (h2 : (Fr.mk f rnd e lm hp df up).opv c = some (.int .i64 n)) (hn : n ≤ 4) :
    (Fr.mk f rnd e lm hp df up).makeSliceE Tryz.prog 22 l c = .val (.row hp.next 0 n) (Fr.mk f rnd e lm (hp.new (.rw 2 (List.replicate n (.agg [.int .i64 0, .int .i64 0])))) df up) := by
  have e1 : elemT Tryz.prog 22 = some 38 := by kernel_rfl
  have e2 : szT Tryz.prog 38 = 2 := by kernel_rfl
  obtain ⟨i, e3, e4⟩ : ∃ i, Tryz.prog.info? 38 = some i ∧ i.bytes ≤ 65536 := by
    have : (match Tryz.prog.info? 38 with | some i => decide (i.bytes ≤ 65536) | none => false) = true := by kernel_rfl
    cases h : Tryz.prog.info? 38 with
    | none => rw [h] at this; cases this
    | some i => rw [h] at this; exact ⟨i, rfl, by simpa using this⟩
  have e5 : (0 : Int) ≤ n ∧ (n : Int) ≤ n ∧ (n : Int) ≤ most ∧ i.bytes ≤ 65536 ∧ (AV.agg [.int .i64 0, .int .i64 0]).cells.length = 2 ∧ isTuple (.agg [.int .i64 0, .int .i64 0]) = false ∧ 2 ≠ 0 := by
    refine ⟨by omega, by omega, by unfold most; omega, e4, rfl, rfl, by omega⟩
  unfold Fr.makeSliceE
  simp only [e1, h1, h2, z38, e3, e2, e5, and_self, if_true, Int.toNat_natCast, ne_eq, not_false_eq_true]
theorem WO1.make22 {c0 : FuncId → Option (List AV → Heap → Option (AV × Heap))} {ops : Array Oper} {K P : AV → Fr → Prop} {f : FuncId} {rnd : Bool} {e : Mp AV} {lm : Mp (Nat × List AV)} {hp : Heap} {df : List (AV × List AV)} {up : Option (AV × Bool)} {d : Option Tmp} {T : TypeId} {p : String} {af : Array Edge} {l c : Operand} {n : Nat}
    (h1 : (Fr.mk f rnd e lm hp df up).opv l = some (.int .i64 n)) (h2 : (Fr.mk f rnd e lm hp df up).opv c = some (.int .i64 n)) (hn : n ≤ 4)
    (h : K (.row hp.next 0 n) ((Fr.mk f rnd e lm (hp.new (.rw 2 (List.replicate n (.agg [.int .i64 0, .int .i64 0])))) df up).put d (.row hp.next 0 n))) : WO1 (dX c0) ops ⟨d, .makeSlice 22 l c, T, p, af, none⟩ (Fr.mk f rnd e lm hp df up) K P :=
  U5 (v := .row hp.next 0 n) (F' := Fr.mk f rnd e lm (hp.new (.rw 2 (List.replicate n (.agg [.int .i64 0, .int .i64 0])))) df up) rfl (fun cl rd => by
    simp only [efV, dX_P]
    exact mk22 h1 h2 hn) h
theorem nine (c1 c2 c3 c4 c5 c6 c7 c8 c9 : Bool) (h : ¬ (c1 = true ∧ c2 = true ∧ c3 = true ∧ c4 = true ∧ c5 = true ∧ c6 = true ∧ c7 = false ∧ c8 = false ∧ c9 = false)) : (c1 = false) ∨ (c1 = true ∧ c2 = false) ∨ (c1 = true ∧ c2 = true ∧ c3 = false) ∨ (c1 = true ∧ c2 = true ∧ c3 = true ∧ c4 = false) ∨ (c1 = true ∧ c2 = true ∧ c3 = true ∧ c4 = true ∧ c5 = false) ∨ (c1 = true ∧ c2 = true ∧ c3 = true ∧ c4 = true ∧ c5 = true ∧ c6 = false) ∨ (c1 = true ∧ c2 = true ∧ c3 = true ∧ c4 = true ∧ c5 = true ∧ c6 = true ∧ c7 = true) ∨ (c1 = true ∧ c2 = true ∧ c3 = true ∧ c4 = true ∧ c5 = true ∧ c6 = true ∧ c7 = false ∧ c8 = true) ∨ (c1 = true ∧ c2 = true ∧ c3 = true ∧ c4 = true ∧ c5 = true ∧ c6 = true ∧ c7 = false ∧ c8 = false ∧ c9 = true) := by
  cases c1 with
  | false => exact .inl rfl
  | true =>
    cases c2 with
    | false => exact .inr (.inl ⟨rfl, rfl⟩)
    | true =>
      cases c3 with
      | false => exact .inr (.inr (.inl ⟨rfl, rfl, rfl⟩))
      | true =>
        cases c4 with
        | false => exact .inr (.inr (.inr (.inl ⟨rfl, rfl, rfl, rfl⟩)))
        | true =>
          cases c5 with
          | false => exact .inr (.inr (.inr (.inr (.inl ⟨rfl, rfl, rfl, rfl, rfl⟩))))
          | true =>
            cases c6 with
            | false => exact .inr (.inr (.inr (.inr (.inr (.inl ⟨rfl, rfl, rfl, rfl, rfl, rfl⟩)))))
            | true =>
              cases c7 with
              | true => exact .inr (.inr (.inr (.inr (.inr (.inr (.inl ⟨rfl, rfl, rfl, rfl, rfl, rfl, rfl⟩))))))
              | false =>
                cases c8 with
                | true => exact .inr (.inr (.inr (.inr (.inr (.inr (.inr (.inl ⟨rfl, rfl, rfl, rfl, rfl, rfl, rfl, rfl⟩)))))))
                | false =>
                  cases c9 with
                  | true => exact .inr (.inr (.inr (.inr (.inr (.inr (.inr (.inr (⟨rfl, rfl, rfl, rfl, rfl, rfl, rfl, rfl, rfl⟩))))))))
                  | false =>
                    exact absurd ⟨rfl, rfl, rfl, rfl, rfl, rfl, rfl, rfl, rfl⟩ h
theorem could_mem {p : Nat → Bool} {n : Nat} (h1 : 1 ≤ n) (hn : n ≤ 12) (h : p n = true) : n ∈ couldN p 12 := by
  unfold couldN
  rw [List.mem_map]
  refine ⟨n - 1, List.mem_filter.2 ⟨List.mem_range.2 (by omega), ?_⟩, by omega⟩
  rw [show n - 1 + 1 = n by omega]
  exact h
theorem has_mem {l : List Nat} {n : Nat} (hl : l.length ≤ 20) (h : n ∈ l) : hasB (l.map fun k : Nat => (k : Int)) n = true := by
  unfold hasB
  rw [List.take_of_length_le (by simpa using hl), List.any_eq_true]
  exact ⟨n, List.mem_map.2 ⟨n, h, rfl⟩, by simp⟩
def holeW (st : List Pt) (xs ys es : List Int) (t : Int) (n i : Nat) : Pt :=
  ⟨w64 ((turnR ⟨w64 ((st.getD i ⟨0, 0⟩).x + xs.getD n 0), w64 ((st.getD i ⟨0, 0⟩).y + ys.getD n 0)⟩ t).x + es.getD (2 * i) 0), w64 ((turnR ⟨w64 ((st.getD i ⟨0, 0⟩).x + xs.getD n 0), w64 ((st.getD i ⟨0, 0⟩).y + ys.getD n 0)⟩ t).y + es.getD (2 * i + 1) 0)⟩
theorem found_law {st bl : List Pt} {cx cy wx wy : Sp} {rs : List Rdg} {xs ys es : List Int} {mo : Int} {t n k : Nat} {o : List Nat} (h : machB st cx cy wx wy rs = true) (ht : truthB xs ys = true) (hf : fitsM cx cy wx wy rs xs ys = true) (hb : butB bl mo = true) (hlen : bl.length = st.length) (ht8 : t < 8) (ho : IsOrd st.length o) (h1 : 1 ≤ n) (hn : n ≤ 12) (hk : k ≤ 12)
    (hes : ∀ i, i < st.length → (-mo ≤ es.getD (2 * i) 0 ∧ es.getD (2 * i) 0 ≤ mo) ∧ (-mo ≤ es.getD (2 * i + 1) 0 ∧ es.getD (2 * i + 1) 0 ≤ mo))
    (hh : ∀ i, i < st.length → bl.getD (o.getD i 0) ⟨0, 0⟩ = holeW st xs ys es t n i) :
    suitB (machB st cx cy wx wy rs) st bl mo = true ∧ possB cx cy wx wy rs = true ∧ n ∈ couldN (fun n => (boxL mo st bl).any (canB cx cy wx wy rs n)) 12 ∧ ∃ s, prvL (heldAt cx cy wx wy rs n k) (boxL mo st bl) = some s ∧ inBx (xs.getD k 0) (ys.getD k 0) s := by
  have hsu : suitB (machB st cx cy wx wy rs) st bl mo = true := by
    unfold suitB
    simp [h, hb, hlen]
  obtain ⟨h20, h80, h0, h4, hn1⟩ := suit_pts hsu
  obtain ⟨_, _, n1, n2⟩ := truth_of ht
  have s1 := num_small n1 n
  have s2 := num_small n2 n
  obtain ⟨a, hA, _, _⟩ := true_x h ht hf
  obtain ⟨b, hB, _, _⟩ := true_y h ht hf
  have key := found_true h ht hf h20 h80 h0 h4 hn1 ht8 ho hn (hs := bl) (err := mo) (fun i s hs => by
    have hil : i < st.length := by
      rcases Nat.lt_or_ge i st.length with q | q
      · exact q
      · rw [List.getElem?_eq_none q] at hs; cases hs
    obtain ⟨e1, e2⟩ := hes i hil
    have hs20 := ok20.1 (List.all_eq_true.1 h20 s (List.mem_of_getElem? hs))
    have est : st.getD i ⟨0, 0⟩ = s := by simp [List.getD, hs]
    refine ⟨⟨es.getD (2 * i) 0, es.getD (2 * i + 1) 0⟩, ⟨e1, e2⟩, ?_⟩
    rw [hh i hil]
    unfold holeW
    rw [est]
    have w1 : w64 (s.x + xs.getD n 0) = s.x + xs.getD n 0 := wrap_small (by omega) (by omega)
    have w2 : w64 (s.y + ys.getD n 0) = s.y + ys.getD n 0 := wrap_small (by omega) (by omega)
    rw [w1, w2, ← turnP_R (show inB (t : Int) 0 7 = true by simp [inB]; omega), turn_lin' ht8 (by simp only; omega)]
    have hl := lin_bd t (p := ⟨s.x + xs.getD n 0, s.y + ys.getD n 0⟩) (m := 100) (by simp only; omega)
    have w3 : ∀ x y : Int, -100 ≤ x ∧ x ≤ 100 → -4 ≤ y ∧ y ≤ 4 → w64 (x + y) = x + y := fun x y _ _ => wrap_small (by omega) (by omega)
    rw [w3 _ _ hl.1 (by omega), w3 _ _ hl.2 (by omega)]) k hk
  refine ⟨hsu, ?_, could_mem h1 hn key.1, key.2⟩
  unfold possB
  rw [hA, hB]
  rfl
noncomputable def c21 : FuncId → Option (List AV → Heap → Option (AV × Heap))
  | 27 => some (pureFn sp27)
  | 35 => some (pureFn sp35)
  | 38 => some (pureFn sp38)
  | 41 => some (pureFn sp41)
  | 51 => some (flatFnD sp162)
  | 53 => some (flatFn sp53)
  | 55 => some (flatFnD sp55)
  | 63 => some (newFn 1 sp63)
  | 67 => some (newFn 1 sp67)
  | 70 => some (pureFn sp70)
  | 71 => some (flatFn sp71)
  | 72 => some (pureFn sp72)
  | 73 => some (pureFn sp73)
  | 75 => some (flatFn sp75)
  | 80 => some (pureFn sp80)
  | 81 => some (pureFn sp81)
  | f => c25 cK f
set_option maxHeartbeats 16000000 in
theorem T21 (sa ra xa ya oa ea : AV) (blank turn mo other : Int) (cx cy wx wy : Sp) (st : List Pt) (rs : List Rdg) (xs ys os es : List Int) (hl0 : isSl sa (st.map ptC.enc)) (hr : isSl ra (rs.map rdgC.enc)) (hl : isSl xa (xs.map intC.enc)) (hl2 : isSl ya (ys.map intC.enc)) (ho : isSl oa (os.map intC.enc)) (he : isSl ea (es.map intC.enc)) :
    ClR (dX c21) 21 [.agg [sa, .int .i64 cx.lo, .int .i64 cx.hi, .int .i64 cy.lo, .int .i64 cy.hi, .int .i64 wx.lo, .int .i64 wx.hi, .int .i64 wy.lo, .int .i64 wy.hi, ra], .agg [xa, ya], .int .i64 blank, .int .i64 turn, oa, ea, .int .i64 mo, .int .i64 other] emptyHp (isRet (.bool true)) := by
  have o2 := hl0.out
  have o3 := hr.out
  have o4 := hl.out
  have o5 := hl2.out
  have o6 := ho.out
  have o7 := he.out
  have t2 := hl0.tup
  have t3 := hr.tup
  have t4 := hl.tup
  have t5 := hl2.tup
  have t6 := ho.tup
  have t7 := he.tup
  have on : ∀ {a : AV} {es : List AV}, isSl a es → a.one = true := fun h => by rcases h with ⟨rfl | rfl, _⟩ | rfl <;> rfl
  have n2 := on hl0
  have n3 := on hr
  have n4 := on hl
  have n5 := on hl2
  have hp1 := hl0.pur (enc_pur ptC st)
  have hp2 := hr.pur (enc_pur rdgC rs)
  have hp3 := hl.pur (enc_pur intC xs)
  have hp4 := hl2.pur (enc_pur intC ys)
  have ln2 : lenS sa = some st.length := by rw [hl0.len, List.length_map]
  have ln6 : lenS oa = some os.length := by rw [ho.len, List.length_map]
  have ln7 : lenS ea = some es.length := by rw [he.len, List.length_map]
  have k25 : ∀ h, Cl (dX c21) 25 [] h (.ret (.bool true) h none) := fun h => K25 rfl h
  have K38 : ∀ h, Cl (dX c21) 38 [.agg [sa, .int .i64 cx.lo, .int .i64 cx.hi, .int .i64 cy.lo, .int .i64 cy.hi, .int .i64 wx.lo, .int .i64 wx.hi, .int .i64 wy.lo, .int .i64 wy.hi, ra]] h (.ret (.bool (decide ((st.length : Int) ≤ 6) && decide ((rs.length : Int) ≤ 6))) h none) := fun h => by
    have h1 := slLen_mk hl0
    have h2 := slLen_mk hr
    exact Cl.intr (g := pureFn sp38) rfl (by simp [pureFn, AV.pur, AV.purL, hp1, hp2, sp38, h1, h2])
  have K70 : ∀ h, Cl (dX c21) 70 [.agg [xa, ya]] h (.ret (.bool (decide ((xs.length : Int) ≤ 15) && decide ((ys.length : Int) ≤ 15))) h none) := fun h => by
    have h1 := slLen_mk hl
    have h2 := slLen_mk hl2
    exact Cl.intr (g := pureFn sp70) rfl (by simp [pureFn, AV.pur, AV.purL, hp3, hp4, sp70, h1, h2])
  have k41a : ∀ h, Cl (dX c21) 41 [.int .i64 blank, .int .i64 1] h (.ret (.bool (inB blank 1 12)) h none) := fun h => Cl.intr (g := pureFn sp41) rfl rfl
  have k41b : ∀ h, Cl (dX c21) 41 [.int .i64 other, .int .i64 0] h (.ret (.bool (inB other 0 12)) h none) := fun h => Cl.intr (g := pureFn sp41) rfl rfl
  have k27 : ∀ h, Cl (dX c21) 27 [.int .i64 turn] h (.ret (.bool (inB turn 0 7)) h none) := fun h => Cl.intr (g := pureFn sp27) rfl rfl
  by_cases gs : (decide ((st.length : Int) ≤ 6) && decide ((rs.length : Int) ≤ 6)) = true ∧ (decide ((xs.length : Int) ≤ 15) && decide ((ys.length : Int) ≤ 15)) = true ∧ decide ((os.length : Int) > 6) = false ∧ decide ((es.length : Int) > 12) = false
  · obtain ⟨ga, gb, gc, gd⟩ := gs
    have k38 := K38
    have k70 := K70
    rw [ga] at k38
    rw [gb] at k70
    have gc' := gc
    have gd' := gd
    simp only [Bool.and_eq_true, decide_eq_true_eq] at ga gb
    simp only [decide_eq_false_iff_not] at gc' gd'
    have v2 : slV ptC sa = some st := slV_mk hl0 (by unfold maxL; omega)
    have v3 : slV rdgC ra = some rs := slV_mk hr (by unfold maxL; omega)
    have v4 : slV intC xa = some xs := slV_mk hl (by unfold maxL; omega)
    have v5 : slV intC ya = some ys := slV_mk hl2 (by unfold maxL; omega)
    have v6 : slV intC oa = some os := slV_mk ho (by unfold maxL; omega)
    have v7 : slV intC ea = some es := slV_mk he (by unfold maxL; omega)
    have k71 : ∀ h, Cl (dX c21) 71 [.agg [sa, .int .i64 cx.lo, .int .i64 cx.hi, .int .i64 cy.lo, .int .i64 cy.hi, .int .i64 wx.lo, .int .i64 wx.hi, .int .i64 wy.lo, .int .i64 wy.hi, ra]] h (.ret (.bool (machB st cx cy wx wy rs)) h none) := fun h => by
      have := K71 (X := dX c21) rfl sa ra st rs cx cy wx wy v2 v3 h
      rw [machR_B] at this
      exact this
    have k72 : ∀ h, Cl (dX c21) 72 [.agg [xa, ya]] h (.ret (.bool (truthB xs ys)) h none) := fun h => K72 (X := dX c21) rfl xa ya xs ys v4 v5 h
    have k35 : ∀ h, Cl (dX c21) 35 [oa, .int .i64 ↑st.length] h (.ret (.bool (orderB os st.length)) h none) := fun h => Cl.intr (g := pureFn sp35) rfl (by simp [pureFn, AV.pur, AV.purL, sl_pur v6, sp35, v6])
    have hw7 : IntKind.i64.wrap (2 * (st.length : Int)) = 2 * (st.length : Int) := wrap_small (by omega) (by omega)
    by_cases hall : machB st cx cy wx wy rs = true ∧ truthB xs ys = true ∧ inB blank 1 12 = true ∧ inB other 0 12 = true ∧ inB turn 0 7 = true ∧ orderB os st.length = true ∧ ((es.length : Int) != 2 * (st.length : Int)) = false ∧ decide (mo < 0) = false ∧ decide (mo > 4) = false
    · obtain ⟨m1, m2, m3, m4, m5, m6, m7, m8, m9⟩ := hall
      have k73 : ∀ h, Cl (dX c21) 73 [.agg [sa, .int .i64 cx.lo, .int .i64 cx.hi, .int .i64 cy.lo, .int .i64 cy.hi, .int .i64 wx.lo, .int .i64 wx.hi, .int .i64 wy.lo, .int .i64 wy.hi, ra], .agg [xa, ya]] h (.ret (fitV (machB st cx cy wx wy rs && truthB xs ys) (fitsM cx cy wx wy rs xs ys)) h none) := fun h =>
        Cl.intr (g := pureFn sp73) rfl (by simp [pureFn, AV.pur, AV.purL, hp1, hp2, hp3, hp4, sp73, v2, v3, v4, v5])
      rw [m1, m2] at k73
      simp only [fitV, Bool.and_self, if_true] at k73
      have KA := k41a
      have KB := k41b
      have KC := k27
      have KD := k35
      have KE := k71
      have KF := k72
      rw [m3] at k41a
      rw [m4] at k41b
      rw [m5] at k27
      rw [m6] at k35
      rw [m1] at k71
      rw [m2] at k72
      have b00 : ((0 : Int) != 0) = false := rfl
      have tt : (true && true) = true := rfl
      cases hf : fitsM cx cy wx wy rs xs ys with
      | false =>
        rw [hf] at k73
        clear hl0 hr hl hl2 ho he hp1 hp2 hp3 hp4 v2 v3 v4 v5 v6 v7 K38 K70 ga gb gc' gd' m1 m2 m3 m4 m5 m6 hf KA KB KC KD KE KF
        refine ClR.walk (c := _) rfl Tryz.func21 rfl (by kernel_rfl) rfl isRet_fail ?_
        simp only [entryEnv, Nat.reduceAdd, emptyHp]
        repeat' (first | refine goS ?_ | (apply U6; exact Z1; exact Z1; (focus (simp only [List.nil_append, List.append_nil]; first | exact k38 _ | exact k70 _ | exact k71 _ | exact k72 _ | exact k41a _ | exact k41b _ | exact k27 _ | exact k35 _ | exact k73 _ | exact k25 _)); simp only [pM, pN, rR, rP]) | refine go2 (fun hh => ?_) (fun hh => ?_) | fail)
        all_goals simp only [resV_def (X := dX c21) Tryz.func21, Tryz.results21, resultsV, resultV, go_sem, *, Nat.reduceLT, Int.reduceEq, Int.reduceBEq, Int.reduceLE, Int.reduceLT, Nat.reduceAdd, Nat.reduceBEq, Nat.reduceEqDiff, reduceIte, Nat.reduceLeDiff, Nat.reduceMul, Nat.reduceSub, reduceCtorEq, frzRes, dFrz, frzCells, isRet_ret, tupleOf]
      | true =>
        rw [hf] at k73
        have hst4 := (mach_small m1).2.1
        have hst2 := (mach_small m1).1
        have hmost : st.length ≤ 4 := hst4
        obtain ⟨o, rfl, hord⟩ := order_nat hst4 m6
        obtain ⟨n, rfl, hn1, hn12⟩ : ∃ n : Nat, blank = n ∧ 1 ≤ n ∧ n ≤ 12 := by
          simp only [inB, Bool.and_eq_true, decide_eq_true_eq] at m3
          exact ⟨blank.toNat, by omega, by omega, by omega⟩
        obtain ⟨j, rfl, hj⟩ : ∃ j : Nat, other = j ∧ j ≤ 12 := by
          simp only [inB, Bool.and_eq_true, decide_eq_true_eq] at m4
          exact ⟨other.toNat, by omega, by omega⟩
        obtain ⟨t, rfl, ht8⟩ : ∃ t : Nat, turn = t ∧ t < 8 := by
          simp only [inB, Bool.and_eq_true, decide_eq_true_eq] at m5
          exact ⟨turn.toNat, by omega, by omega⟩
        have hel : es.length = 2 * st.length := by
          simp at m7
          omega
        have hmo : 0 ≤ mo ∧ mo ≤ 4 := by
          simp only [decide_eq_false_iff_not] at m8 m9
          omega
        have hneg : IntKind.i64.wrap (-mo) = -mo := wrap_small (by omega) (by omega)
        obtain ⟨lx, ly, _, _⟩ := truth_of m2
        obtain ⟨X, hX⟩ := get_some (show n < xs.length by omega)
        obtain ⟨Y, hY⟩ := get_some (show n < ys.length by omega)
        have hxi := fun H => ints_idx v4 hX H
        have hyi := fun H => ints_idx v5 hY H
        have hXd : xs.getD n 0 = X := by simp [List.getD, hX]
        have hYd : ys.getD n 0 = Y := by simp [List.getD, hY]
        obtain ⟨Xj, hXj⟩ := get_some (show j < xs.length by omega)
        obtain ⟨Yj, hYj⟩ := get_some (show j < ys.length by omega)
        have hxj := fun H => ints_idx v4 hXj H
        have hyj := fun H => ints_idx v5 hYj H
        have hXjd : xs.getD j 0 = Xj := by simp [List.getD, hXj]
        have hYjd : ys.getD j 0 = Yj := by simp [List.getD, hYj]
        have HLAW := Lib.hid (fun (bl : List Pt) hb hlen hes hh => found_law (bl := bl) (mo := mo) (es := es) m1 m2 hf hb hlen ht8 hord hn1 hn12 hj hes hh)
        have HV2 := Lib.hid v2
        have HV3 := Lib.hid v3
        have HV6 := Lib.hid v6
        have HV7 := Lib.hid v7
        have HORD := Lib.hid hord
        have HEL := Lib.hid hel
        have HP := Lib.hid (And.intro hp1 hp2)
        have hnz : (List.replicate st.length (AV.agg [.int .i64 0, .int .i64 0])) = (List.replicate st.length (⟨0, 0⟩ : Pt)).map ptC.enc := by simp [ptC]
        clear hl0 hr hl hl2 ho he hp1 hp2 hp3 hp4 v2 v3 v4 v5 v6 v7 K38 K70 ga gb gc' gd' m1 m2 m3 m4 m5 m6 hf KA KB KC KD KE KF hord lx ly hX hY hXj hYj hel
        refine ClR.walk (c := _) rfl Tryz.func21 rfl (by kernel_rfl) rfl isRet_fail ?_
        simp only [entryEnv, Nat.reduceAdd, emptyHp]
        repeat' (first | (apply WO1.make22 (n := st.length); (focus (first | exact Z2 | exact Z1)); (focus (first | exact Z2 | exact Z1)); (focus (exact hmost)); simp only [pM, pN]) | refine go1 ?_ | (apply U6; exact Z1; exact Z1; (focus (simp only [List.nil_append, List.append_nil]; first | exact k38 _ | exact k70 _ | exact k71 _ | exact k72 _ | exact k41a _ | exact k41b _ | exact k27 _ | exact k35 _ | exact k73 _ | exact k25 _)); simp only [pM, pN, rR, rP]) | refine go2 (fun hh => ?_) (fun hh => ?_) | fail)
        refine W.loopN st.length (fun k F => ∃ e lm hp bl, F = Fr.mk 21 false e lm hp [] none ∧ hp.get 0 = some (.rw 2 (List.map ptC.enc bl)) ∧ hp.next = 1 ∧ bl.length = st.length ∧ (∀ i, i < k → bl.getD (o.getD i 0) ⟨0, 0⟩ = holeW st xs ys es t n i) ∧ (∀ i, i < k → (-mo ≤ es.getD (2 * i) 0 ∧ es.getD (2 * i) 0 ≤ mo) ∧ (-mo ≤ es.getD (2 * i + 1) 0 ∧ es.getD (2 * i + 1) 0 ≤ mo)) ∧
          lm.get 8 = some (0, [sa, .int .i64 cx.lo, .int .i64 cx.hi, .int .i64 cy.lo, .int .i64 cy.hi, .int .i64 wx.lo, .int .i64 wx.hi, .int .i64 wy.lo, .int .i64 wy.hi, ra]) ∧ lm.get 9 = some (0, [xa, ya]) ∧ lm.get 19 = some (0, [.row 0 0 st.length, .int .i64 mo]) ∧
          e.get 2 = some (.int .i64 ↑n) ∧ e.get 3 = some (.int .i64 ↑t) ∧ e.get 4 = some oa ∧ e.get 5 = some ea ∧ e.get 6 = some (.int .i64 mo) ∧ e.get 7 = some (.int .i64 ↑j) ∧ e.get 8 = some (.lptr 8 0 0) ∧ e.get 9 = some (.lptr 9 0 0) ∧ e.get 19 = some (.lptr 19 0 0) ∧ e.get 20 = some (.int .i64 ↑k) ∧ k ≤ st.length) ?_ ?_
        · refine ⟨_, _, _, List.replicate st.length ⟨0, 0⟩, rfl, ?_, ?_, by simp, fun i hi => by omega, fun i hi => by omega, ?_, ?_, ?_, ?_, ?_, ?_, ?_, ?_, ?_, ?_, ?_, ?_, ?_, ?_⟩
          · rw [← hnz]; simp only [hp_get, go_sem, *, Nat.reduceLT, Int.reduceEq, Int.reduceBEq, Int.reduceLE, Int.reduceLT, Nat.reduceAdd, Nat.reduceBEq, Nat.reduceEqDiff, reduceIte, Nat.reduceLeDiff, Nat.reduceMul, Nat.reduceSub, reduceCtorEq]
          all_goals first | exact Z2 | simp [go_sem, *]
        clear hnz
        rintro k F ⟨e, lm, ⟨qn, qm⟩, bl, rfl, g0, hqn, hbl, hhole, herr, l8, l9, l19, h2, h3, h4, h5, h6, h7, h8, h9, h19, h20, hk⟩
        simp only at hqn
        subst hqn
        have HHOLE := Lib.hid hhole
        have HERR := Lib.hid herr
        have HBL := Lib.hid hbl
        clear hhole herr hbl
        by_cases hkl : k < st.length
        · have hd : decide ((k : Int) < (st.length : Int)) = true := by simpa using hkl
          have hw := wrap_succ (m := st.length) hkl (by unfold maxL; omega)
          obtain ⟨s, hs⟩ := get_some hkl
          have hsd : st.getD k ⟨0, 0⟩ = s := by simp [List.getD, hs]
          have hsi := fun H => pts_idx HV2.out hs H
          obtain ⟨ex, hex⟩ := get_some (show 2 * k < es.length by have := HEL.out; omega)
          obtain ⟨ey, hey⟩ := get_some (show 2 * k + 1 < es.length by have := HEL.out; omega)
          have hexd : es.getD (2 * k) 0 = ex := by simp [List.getD, hex]
          have heyd : es.getD (2 * k + 1) 0 = ey := by simp [List.getD, hey]
          have hei := fun H => ints_idx HV7.out hex H
          have hei2 := fun H => ints_idx HV7.out hey H
          have hw2 : IntKind.i64.wrap (2 * (k : Int)) = ((2 * k : Nat) : Int) := by
            rw [wrap_small (by omega) (by omega)]; omega
          have hw3 : IntKind.i64.wrap (((2 * k : Nat) : Int) + 1) = ((2 * k + 1 : Nat) : Int) := by
            rw [wrap_small (by omega) (by omega)]; omega
          obtain ⟨hol, holt, hond⟩ := HORD.out
          obtain ⟨v, hv⟩ := get_some (show k < o.length by omega)
          have hvn : v < st.length := holt v (List.mem_of_getElem? hv)
          have hvd : o.getD k 0 = v := by simp [List.getD, hv]
          have hoi := fun H => ints_idx HV6.out (show (o.map fun k : Nat => (k : Int))[k]? = some ((v : Nat) : Int) by simp [hv]) H
          obtain ⟨q, hq⟩ := get_some (show v < bl.length by rw [HBL.out]; exact hvn)
          have hat : (bl.map ptC.enc)[v]? = some (.agg [.int .i64 q.x, .int .i64 q.y]) := by simp [hq, ptC]
          have hri : indexAddrV Tryz.prog ⟨1, qm⟩ 22 (.row 0 0 st.length) (.int .i64 ↑v) = some (.eptr 0 2 v 0) := by
            have : idxV (.int .i64 (v : Int)) st.length = some v := by simp [idxV, hvn]
            simp only [indexAddrV, Tryz.underlying22, ty_lay38, this, g0]
            simp
          have w1 : IntKind.i64.wrap (s.x + X) = w64 (s.x + X) := rfl
          have w2 : IntKind.i64.wrap (s.y + Y) = w64 (s.y + Y) := rfl
          have HW := Lib.hid (show holeW st xs ys es t n k = ⟨w64 ((turnR ⟨w64 (s.x + X), w64 (s.y + Y)⟩ t).x + ex), w64 ((turnR ⟨w64 (s.x + X), w64 (s.y + Y)⟩ t).y + ey)⟩ by unfold holeW; rw [hsd, hXd, hYd, hexd, heyd])
          have k81 := fun h => K81 (X := dX c21) rfl ⟨w64 (s.x + X), w64 (s.y + Y)⟩ (t : Nat) h
          simp only at k81
          generalize turnR ⟨w64 (s.x + X), w64 (s.y + Y)⟩ t = u at *
          generalize w64 (s.x + X) = px at *
          generalize w64 (s.y + Y) = py at *
          have w3 : IntKind.i64.wrap (u.x + ex) = w64 (u.x + ex) := rfl
          have w4 : IntKind.i64.wrap (u.y + ey) = w64 (u.y + ey) := rfl
          have HNB := Lib.hid (show ∀ i, i < k → o.getD i 0 ≠ v by
            intro i hi e
            obtain ⟨vi, hvi⟩ := get_some (show i < o.length by omega)
            have : o.getD i 0 = vi := by simp [List.getD, hvi]
            rw [this] at e
            subst e
            exact absurd ((List.getElem?_inj (show i < o.length by omega) hond).1 (hvi.trans hv.symm)) (by omega))
          have HG0 := Lib.hid g0
          simp only [hp_get] at g0
          have hcase : (decide (ex < -mo) = true) ∨ (decide (ex < -mo) = false ∧ decide (ex > mo) = true) ∨ (decide (ex < -mo) = false ∧ decide (ex > mo) = false ∧ decide (ey < -mo) = true) ∨ (decide (ex < -mo) = false ∧ decide (ex > mo) = false ∧ decide (ey < -mo) = false ∧ decide (ey > mo) = true) ∨ (decide (ex < -mo) = false ∧ decide (ex > mo) = false ∧ decide (ey < -mo) = false ∧ decide (ey > mo) = false) := by
            cases decide (ex < -mo) <;> cases decide (ex > mo) <;> cases decide (ey < -mo) <;> cases decide (ey > mo) <;> simp
          clear hs hsd hex hey hol hond holt hv hq
          rcases hcase with y1 | ⟨y1, y2⟩ | ⟨y1, y2, y3⟩ | ⟨y1, y2, y3, y4⟩ | ⟨y1, y2, y3, y4⟩
          · clear hat hri w1 w2 w3 w4 k81
            repeat' (first | refine goS ?_ | (apply U6; exact Z1; exact Z1; (focus (simp only [List.nil_append, List.append_nil]; first | exact k25 _)); simp only [pM, pN, rR, rP]) | refine go2 (fun hh => ?_) (fun hh => ?_) | fail)
            all_goals simp only [resV_def (X := dX c21) Tryz.func21, Tryz.results21, resultsV, resultV, go_sem, *, Nat.reduceLT, Int.reduceEq, Int.reduceBEq, Int.reduceLE, Int.reduceLT, Nat.reduceAdd, Nat.reduceBEq, Nat.reduceEqDiff, reduceIte, Nat.reduceLeDiff, Nat.reduceMul, Nat.reduceSub, reduceCtorEq, frzRes, dFrz, frzCells, isRet_ret, tupleOf]
          · clear hat hri w1 w2 w3 w4 k81
            repeat' (first | refine goS ?_ | (apply U6; exact Z1; exact Z1; (focus (simp only [List.nil_append, List.append_nil]; first | exact k25 _)); simp only [pM, pN, rR, rP]) | refine go2 (fun hh => ?_) (fun hh => ?_) | fail)
            all_goals simp only [resV_def (X := dX c21) Tryz.func21, Tryz.results21, resultsV, resultV, go_sem, *, Nat.reduceLT, Int.reduceEq, Int.reduceBEq, Int.reduceLE, Int.reduceLT, Nat.reduceAdd, Nat.reduceBEq, Nat.reduceEqDiff, reduceIte, Nat.reduceLeDiff, Nat.reduceMul, Nat.reduceSub, reduceCtorEq, frzRes, dFrz, frzCells, isRet_ret, tupleOf]
          · clear hat hri w1 w2 w3 w4 k81
            repeat' (first | refine goS ?_ | (apply U6; exact Z1; exact Z1; (focus (simp only [List.nil_append, List.append_nil]; first | exact k25 _)); simp only [pM, pN, rR, rP]) | refine go2 (fun hh => ?_) (fun hh => ?_) | fail)
            all_goals simp only [resV_def (X := dX c21) Tryz.func21, Tryz.results21, resultsV, resultV, go_sem, *, Nat.reduceLT, Int.reduceEq, Int.reduceBEq, Int.reduceLE, Int.reduceLT, Nat.reduceAdd, Nat.reduceBEq, Nat.reduceEqDiff, reduceIte, Nat.reduceLeDiff, Nat.reduceMul, Nat.reduceSub, reduceCtorEq, frzRes, dFrz, frzCells, isRet_ret, tupleOf]
          · clear hat hri w1 w2 w3 w4 k81
            repeat' (first | refine goS ?_ | (apply U6; exact Z1; exact Z1; (focus (simp only [List.nil_append, List.append_nil]; first | exact k25 _)); simp only [pM, pN, rR, rP]) | refine go2 (fun hh => ?_) (fun hh => ?_) | fail)
            all_goals simp only [resV_def (X := dX c21) Tryz.func21, Tryz.results21, resultsV, resultV, go_sem, *, Nat.reduceLT, Int.reduceEq, Int.reduceBEq, Int.reduceLE, Int.reduceLT, Nat.reduceAdd, Nat.reduceBEq, Nat.reduceEqDiff, reduceIte, Nat.reduceLeDiff, Nat.reduceMul, Nat.reduceSub, reduceCtorEq, frzRes, dFrz, frzCells, isRet_ret, tupleOf]
          · repeat' (first | (apply Z7 (o := ⟨some 21, .alloc 38, 0, _, _, none⟩); exact rfl; exact rfl; exact Z1; simp only [pM, pN]) | (apply W.drawQ (id := 14) (l1 := [27, 0, 1, 2, 3, 4, 5, 6, 7, 8, 9, 10, 11, 12, 13, 14, 15, 16, 17, 18, 19, 20, 21, 22, 23, 24, 25, 26]) (l2 := [28]); kernel_rfl; kernel_rfl; kernel_rfl; exact Z4) | (apply W.drawQ (id := 15) (l1 := [0, 1, 2, 3, 4, 5, 6, 7, 8, 9, 10, 11, 12, 13, 14, 15, 16, 17, 18, 19, 20, 21, 22, 23, 24]) (l2 := [25]); kernel_rfl; kernel_rfl; kernel_rfl; exact Z4) | (apply W.drawQ (id := 23) (l1 := [0, 1, 2, 3, 4, 5, 6, 7, 8, 9, 10, 11, 12, 13, 14, 15, 16, 17, 18, 19, 20, 21, 22, 23, 24, 25, 26, 27, 28, 29, 30, 31, 32, 33, 34, 35, 36, 37, 38, 39, 40, 41]) (l2 := []); kernel_rfl; kernel_rfl; kernel_rfl; exact Z4) | refine go1 ?_ | (apply U6; exact Z1; exact Z1; (focus (simp only [List.nil_append, List.append_nil]; first | exact K80 rfl _ _ _ | exact k81 _)); simp only [pM, pN, rR, rP]) | refine go2 (fun hh => ?_) (fun hh => ?_) | fail)
            refine ⟨hkl, _, _, _, bl.set v ⟨w64 (u.x + ex), w64 (u.y + ey)⟩, rfl, ?_, rfl, by simp [HBL.out], fun i hi => ?_, fun i hi => ?_, ?_, ?_, ?_, ?_, ?_, ?_, ?_, ?_, ?_, ?_, ?_, ?_, ?_, by omega⟩
            · rw [List.map_set]
              first | (simp only [hp_get, ptC, go_sem, *, Nat.reduceLT, Int.reduceEq, Int.reduceBEq, Int.reduceLE, Int.reduceLT, Nat.reduceAdd, Nat.reduceBEq, Nat.reduceEqDiff, reduceIte, Nat.reduceLeDiff, Nat.reduceMul, Nat.reduceSub, reduceCtorEq]; done) | (simp only [hp_get, ptC, go_sem, *, Nat.reduceLT, Int.reduceEq, Int.reduceBEq, Int.reduceLE, Int.reduceLT, Nat.reduceAdd, Nat.reduceBEq, Nat.reduceEqDiff, reduceIte, Nat.reduceLeDiff, Nat.reduceMul, Nat.reduceSub, reduceCtorEq]; rfl) | (simp [hp_get, ptC, go_sem, *, Nat.reduceLT, Int.reduceEq, Int.reduceBEq, Int.reduceLE, Int.reduceLT, Nat.reduceAdd, Nat.reduceBEq, Nat.reduceEqDiff, reduceIte, Nat.reduceLeDiff, Nat.reduceMul, Nat.reduceSub, reduceCtorEq]; rfl)
            · rcases Nat.lt_or_ge i k with q | q
              · rw [List.getD, List.getElem?_set_ne (fun e => HNB.out i q e.symm), ← List.getD]
                exact HHOLE.out i q
              · have : i = k := by omega
                subst this
                rw [hvd, HW.out, List.getD, List.getElem?_set_self (by rw [HBL.out]; exact hvn)]
                rfl
            · rcases Nat.lt_or_ge i k with q | q
              · exact HERR.out i q
              · have : i = k := by omega
                subst this
                rw [hexd, heyd]
                simp only [decide_eq_false_iff_not] at y1 y2 y3 y4
                omega
            all_goals exact Z2
        · have hd : decide ((k : Int) < (st.length : Int)) = false := by simpa using hkl
          have hke : k = st.length := by omega
          have hhole := HHOLE.out
          have herr := HERR.out
          rw [hke] at hhole herr
          have hbn : (bl.map ptC.enc) ≠ [] := by
            intro q
            have := congrArg List.length q
            rw [List.length_map, HBL.out, List.length_nil] at this
            omega
          have hrow : Blt ⟨1, qm⟩ (.row 0 0 st.length) 2 (bl.map ptC.enc) := .inr ⟨0, by rw [List.length_map, HBL.out], g0, by simp only; omega, hbn⟩
          have hbm : bl.length ≤ maxL := by rw [HBL.out]; unfold maxL; omega
          have hk51 := K51D (X := dX c21) rfl (.row 0 0 st.length) bl mo ⟨1, qm⟩ (.blt hrow hbm)
          have HK51 := Lib.hid hk51
          have HH := Lib.hid hhole
          have HE := Lib.hid herr
          have HROW := Lib.hid hrow
          have HBM := Lib.hid hbm
          clear hhole herr hbn hrow hbm hk51 hke hkl hk HHOLE HERR
          cases hbu : butB bl mo with
          | false =>
            rw [hbu] at HK51
            clear hbu
            repeat' (first | refine goS ?_ | (apply U6; exact Z1; exact Z1; (focus (simp only [List.nil_append, List.append_nil]; first | exact HK51.out | exact k25 _)); simp only [pM, pN, rR, rP]) | refine go2 (fun hh => ?_) (fun hh => ?_) | fail)
            all_goals simp only [resV_def (X := dX c21) Tryz.func21, Tryz.results21, resultsV, resultV, go_sem, *, Nat.reduceLT, Int.reduceEq, Int.reduceBEq, Int.reduceLE, Int.reduceLT, Nat.reduceAdd, Nat.reduceBEq, Nat.reduceEqDiff, reduceIte, Nat.reduceLeDiff, Nat.reduceMul, Nat.reduceSub, reduceCtorEq, frzRes, dFrz, frzCells, isRet_ret, tupleOf]
          | true =>
            rw [hbu] at HK51
            obtain ⟨hsu, hpo, hmem, sv, hprv, hin⟩ := HLAW.out bl hbu HBL.out HE.out HH.out
            have hcl := couldN_len (fun n => (boxL mo st bl).any (canB cx cy wx wy rs n)) 12
            obtain ⟨v, ⟨zn, zm⟩, hc63, hbv, hx⟩ := K63 (X := dX c21) rfl sa ra (.row 0 0 st.length) st bl rs cx cy wx wy mo ⟨1, qm⟩ (.of HV2.out _) (.of HV3.out _) (.blt HROW.out HBM.out) true true _ hsu hpo rfl
            have hma : (⟨sa, ra, cx, cy, wx, wy, HP.out⟩ : MA).ok = true := by simp [MA.ok, HV2.out, HV3.out]
            obtain ⟨q1, q2⟩ := MA.ok_is hma
            have e1 : (⟨sa, ra, cx, cy, wx, wy, HP.out⟩ : MA).stops = st := by simp [MA.stops, HV2.out]
            have e2 : (⟨sa, ra, cx, cy, wx, wy, HP.out⟩ : MA).rdgs = rs := by simp [MA.rdgs, HV3.out]
            have e3 : (⟨sa, ra, cx, cy, wx, wy, HP.out⟩ : MA).suit bl mo = true := by unfold MA.suit MA.mach; rw [e1, e2]; exact hsu
            have e4 : (⟨sa, ra, cx, cy, wx, wy, HP.out⟩ : MA).poss = true := by unfold MA.poss; rw [e2]; exact hpo
            have e5 : ((⟨sa, ra, cx, cy, wx, wy, HP.out⟩ : MA).could bl mo).isEmpty = false := by
              unfold MA.could
              rw [e1, e2]
              rw [Bool.eq_false_iff]
              intro q
              rw [List.isEmpty_iff] at q
              simp only at q
              rw [q] at hmem
              cases hmem
            have hlm : slV machC (.vslice [machC.enc ⟨sa, ra, cx, cy, wx, wy, HP.out⟩]) = some [⟨sa, ra, cx, cy, wx, wy, HP.out⟩] := slV_slN (c := machC) (l := [⟨sa, ra, cx, cy, wx, wy, HP.out⟩]) (by simp [maxL])
            have hw1 : whoN bl mo [(⟨sa, ra, cx, cy, wx, wy, HP.out⟩ : MA)] 1 = [0] := by
              have := whoN_succ (hs := bl) (err := mo) (l := [(⟨sa, ra, cx, cy, wx, wy, HP.out⟩ : MA)]) (k := 0) rfl
              rw [e5] at this
              simpa [whoN] using this
            obtain ⟨w, ⟨yn, ym⟩, hc67, hbw, hx2⟩ := K67 (X := dX c21) rfl (.vslice [machC.enc ⟨sa, ra, cx, cy, wx, wy, HP.out⟩]) (.row 0 0 st.length) [⟨sa, ra, cx, cy, wx, wy, HP.out⟩] bl mo ⟨zn, zm⟩ (.of hlm _) (by simp [hma]) (.blt (HROW.out.ext hx) HBM.out) true true [0] (by simp [e3]) (by simp [e4]) hw1
            have hk55 := K55 (X := dX c21) rfl sa ra (.row 0 0 st.length) st bl rs cx cy wx wy mo n j ⟨yn, ym⟩ (.of HV2.out _) (.of HV3.out _) (.blt (HROW.out.ext (hx.trans hx2)) HBM.out)
            have hi1 : inB (n : Int) 1 12 = true := by simp [inB]; omega
            have hi2 : inB (j : Int) 0 12 = true := by simp [inB]; omega
            rw [hsu, hi1, hi2] at hk55
            simp only [Int.toNat_natCast, Bool.and_self] at hk55
            rw [hprv] at hk55
            simp only [prvV, if_true, spC] at hk55
            simp only [Bool.and_self, if_true] at hbv hbw hc63 hc67
            have hk53 := K53b (X := dX c21) rfl hbw (by simp [maxL]) (b := .vslice [.int .i64 0]) rfl
            have hk75 := K75 (X := dX c21) rfl v _ n ⟨yn, ym⟩ (SeeV.nats (hbv.ext hx2) (by unfold maxL; omega))
            rw [has_mem (by omega) hmem] at hk75
            have ov := hbv.out
            have tv := hbv.tup
            have cv := hbv.cells
            have ow := hbw.out
            have tw := hbw.tup
            have cw := hbw.cells
            simp only [AV.cells] at cv cw
            simp only [isTuple] at tv tw
            simp only [machC] at hc67
            have HK55 := Lib.hid hk55
            have HK53 := Lib.hid hk53
            have HK75 := Lib.hid hk75
            unfold inBx inS at hin
            rw [hXjd, hYjd] at hin
            have z1 : decide (Xj ≥ sv.x.lo) = true := by simp; omega
            have z2 : decide (Xj ≤ sv.x.hi) = true := by simp; omega
            have z3 : decide (Yj ≥ sv.y.lo) = true := by simp; omega
            have z4 : decide (Yj ≤ sv.y.hi) = true := by simp; omega
            clear hbu hsu hpo hmem hprv hin hcl hbv hx hma q1 q2 e1 e2 e3 e4 e5 hlm hw1 hbw hx2 hk55 hk53 hk75 hi1 hi2 HLAW HH HE HROW
            repeat' (first | (apply U6; exact Z1; exact Z1; (focus (exact hc63)); simp only [pM, pN, rR, rP]) | (apply U6; exact Z1; exact Z1; (focus (exact hc67)); simp only [pM, pN, rR, rP]) | (apply W.drawQ (id := 14) (l1 := [27, 0, 1, 2, 3, 4, 5, 6, 7, 8, 9, 10, 11, 12, 13, 14, 15, 16, 17, 18, 19, 20, 21, 22, 23, 24, 25, 26]) (l2 := [28]); kernel_rfl; kernel_rfl; kernel_rfl; exact Z4) | (apply W.drawQ (id := 15) (l1 := [0, 1, 2, 3, 4, 5, 6, 7, 8, 9, 10, 11, 12, 13, 14, 15, 16, 17, 18, 19, 20, 21, 22, 23, 24]) (l2 := [25]); kernel_rfl; kernel_rfl; kernel_rfl; exact Z4) | (apply W.drawQ (id := 23) (l1 := [0, 1, 2, 3, 4, 5, 6, 7, 8, 9, 10, 11, 12, 13, 14, 15, 16, 17, 18, 19, 20, 21, 22, 23, 24, 25, 26, 27, 28, 29, 30, 31, 32, 33, 34, 35, 36, 37, 38, 39, 40, 41]) (l2 := []); kernel_rfl; kernel_rfl; kernel_rfl; exact Z4) | refine go1 ?_ | (apply U6; exact Z1; exact Z1; (focus (simp only [List.nil_append, List.append_nil]; first | exact HK51.out | exact HK55.out | exact HK75.out | exact HK53.out | exact k25 _)); simp only [pM, pN, rR, rP]) | refine go2 (fun hh => ?_) (fun hh => ?_) | fail)
            all_goals simp only [resV_def (X := dX c21) Tryz.func21, Tryz.results21, resultsV, resultV, go_sem, *, Nat.reduceLT, Int.reduceEq, Int.reduceBEq, Int.reduceLE, Int.reduceLT, Nat.reduceAdd, Nat.reduceBEq, Nat.reduceEqDiff, reduceIte, Nat.reduceLeDiff, Nat.reduceMul, Nat.reduceSub, reduceCtorEq, frzRes, dFrz, frzCells, isRet_ret, tupleOf]
    · have hd := nine _ _ _ _ _ _ _ _ _ hall
      clear hl0 hr hl hl2 ho he hp1 hp2 hp3 hp4 v2 v3 v4 v5 v6 v7 K38 K70 ga gb gc' gd' hall
      generalize machB st cx cy wx wy rs = b1 at *
      generalize truthB xs ys = b2 at *
      generalize inB blank 1 12 = b3 at *
      generalize inB other 0 12 = b4 at *
      generalize inB turn 0 7 = b5 at *
      generalize orderB os st.length = b6 at *
      generalize hb7 : ((es.length : Int) != 2 * (st.length : Int)) = b7 at *
      generalize hb8 : decide (mo < 0) = b8 at *
      generalize hb9 : decide (mo > 4) = b9 at *
      refine ClR.walk (c := _) rfl Tryz.func21 rfl (by kernel_rfl) rfl isRet_fail ?_
      simp only [entryEnv, Nat.reduceAdd, emptyHp]
      rcases hd with rfl | ⟨rfl, rfl⟩ | ⟨rfl, rfl, rfl⟩ | ⟨rfl, rfl, rfl, rfl⟩ | ⟨rfl, rfl, rfl, rfl, rfl⟩ | ⟨rfl, rfl, rfl, rfl, rfl, rfl⟩ | ⟨rfl, rfl, rfl, rfl, rfl, rfl, rfl⟩ | ⟨rfl, rfl, rfl, rfl, rfl, rfl, rfl, rfl⟩ | ⟨rfl, rfl, rfl, rfl, rfl, rfl, rfl, rfl, rfl⟩
      all_goals (
        repeat' (first | refine goS ?_ | (apply U6; exact Z1; exact Z1; (focus (simp only [List.nil_append, List.append_nil]; first | exact k38 _ | exact k70 _ | exact k71 _ | exact k72 _ | exact k41a _ | exact k41b _ | exact k27 _ | exact k35 _ | exact k25 _)); simp only [pM, pN, rR, rP]) | refine go2 (fun hh => ?_) (fun hh => ?_) | fail)
        all_goals simp only [resV_def (X := dX c21) Tryz.func21, Tryz.results21, resultsV, resultV, go_sem, *, Nat.reduceLT, Int.reduceEq, Int.reduceBEq, Int.reduceLE, Int.reduceLT, Nat.reduceAdd, Nat.reduceBEq, Nat.reduceEqDiff, reduceIte, Nat.reduceLeDiff, Nat.reduceMul, Nat.reduceSub, reduceCtorEq, frzRes, dFrz, frzCells, isRet_ret, tupleOf])
  · have hd : (decide ((st.length : Int) ≤ 6) && decide ((rs.length : Int) ≤ 6)) = false ∨ ((decide ((st.length : Int) ≤ 6) && decide ((rs.length : Int) ≤ 6)) = true ∧ (decide ((xs.length : Int) ≤ 15) && decide ((ys.length : Int) ≤ 15)) = false) ∨ ((decide ((st.length : Int) ≤ 6) && decide ((rs.length : Int) ≤ 6)) = true ∧ (decide ((xs.length : Int) ≤ 15) && decide ((ys.length : Int) ≤ 15)) = true ∧ decide ((os.length : Int) > 6) = true) ∨ ((decide ((st.length : Int) ≤ 6) && decide ((rs.length : Int) ≤ 6)) = true ∧ (decide ((xs.length : Int) ≤ 15) && decide ((ys.length : Int) ≤ 15)) = true ∧ decide ((os.length : Int) > 6) = false ∧ decide ((es.length : Int) > 12) = true) := by
      revert gs
      cases (decide ((st.length : Int) ≤ 6) && decide ((rs.length : Int) ≤ 6)) <;> cases (decide ((xs.length : Int) ≤ 15) && decide ((ys.length : Int) ≤ 15)) <;> cases decide ((os.length : Int) > 6) <;> cases decide ((es.length : Int) > 12) <;> simp
    have k38 := K38
    have k70 := K70
    clear hl0 hr hl hl2 ho he hp1 hp2 hp3 hp4 K38 K70 gs
    generalize (decide ((st.length : Int) ≤ 6) && decide ((rs.length : Int) ≤ 6)) = s1 at *
    generalize (decide ((xs.length : Int) ≤ 15) && decide ((ys.length : Int) ≤ 15)) = s2 at *
    refine ClR.walk (c := _) rfl Tryz.func21 rfl (by kernel_rfl) rfl isRet_fail ?_
    simp only [entryEnv, Nat.reduceAdd, emptyHp]
    rcases hd with rfl | ⟨rfl, rfl⟩ | ⟨rfl, rfl, y1⟩ | ⟨rfl, rfl, y1, y2⟩
    all_goals (
      repeat' (first | refine goS ?_ | (apply U6; exact Z1; exact Z1; (focus (simp only [List.nil_append, List.append_nil]; first | exact k38 _ | exact k70 _ | exact k25 _)); simp only [pM, pN, rR, rP]) | refine go2 (fun hh => ?_) (fun hh => ?_) | fail)
      all_goals simp only [resV_def (X := dX c21) Tryz.func21, Tryz.results21, resultsV, resultV, go_sem, *, Nat.reduceLT, Int.reduceEq, Int.reduceBEq, Int.reduceLE, Int.reduceLT, Nat.reduceAdd, Nat.reduceBEq, Nat.reduceEqDiff, reduceIte, Nat.reduceLeDiff, Nat.reduceMul, Nat.reduceSub, reduceCtorEq, frzRes, dFrz, frzCells, isRet_ret, tupleOf])
end Go.AM
