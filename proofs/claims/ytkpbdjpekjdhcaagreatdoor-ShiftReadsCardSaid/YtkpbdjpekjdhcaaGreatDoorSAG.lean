/-
  A part of the proof: contracts of functions.
-/
import Derived.Test.YtkpbdjpekjdhcaaGreatDoorSAF
import Derived.Test.YtkpbdjpekjdhcaaGreatDoorSAD
set_option linter.unusedSectionVars false
set_option linter.unusedVariables false
set_option linter.unusedSimpArgs false
set_option maxRecDepth 100000
namespace Go.AM
open Go Go.Proofs
variable [Keep]
attribute [local irreducible] W WO WO1 WD WQ WT thenQ blockQ endR isRet retK Cl ClR
open Go.TX (numP smallP isDig valD val_lt val_app dig_bds mapO mapO_next mapO_none matchF)
def sureC (b : Bool) (w : List UInt8) (h : Heap) : COut := if b then .ret (.tuple []) h none else .pan (.iface 207 (.agg [.str w])) h none
theorem C157 (c : FuncId → Option (List AV → Heap → Option (AV × Heap))) (hc : c 157 = none) (b : Bool) (w : List UInt8) (h : Heap) : Cl (dX c) 157 [.bool b, .str w] h (sureC b w h) := by
  refine ClR.cl ?_
  cases b with
  | true =>
    refine ClR.walk (c := _) hc Tryz.func157 rfl (by kernel_rfl) rfl (fun e => by cases e) ?_
    simp only [entryEnv, Nat.reduceAdd]
    repeat' (first | (apply WO1.panic; exact rfl; (focus (intro cl rd; simp only [go_sem, *, Nat.reduceLT, Int.reduceEq, Int.reduceBEq, Int.reduceLE, Int.reduceLT, Nat.reduceAdd, Nat.reduceBEq, Nat.reduceEqDiff, reduceIte, Nat.reduceLeDiff, Nat.reduceMul, Nat.reduceSub, reduceCtorEq, efV, Fr.panicE]; with_reducible rfl)); simp only [tP, bP, eP, true_and]) | refine go1 ?_ | refine go2 (fun hh => ?_) (fun hh => ?_) | fail)
    all_goals simp only [resV_def (X := dX c) Tryz.func157, Tryz.results157, resultsV, resultV, go_sem, *, Nat.reduceLT, Int.reduceEq, Int.reduceBEq, Int.reduceLE, Int.reduceLT, Nat.reduceAdd, Nat.reduceBEq, Nat.reduceEqDiff, reduceIte, Nat.reduceLeDiff, Nat.reduceMul, Nat.reduceSub, reduceCtorEq, frzRes, dFrz, frzCells, isRet_ret, tupleOf]
    all_goals rfl
  | false =>
    refine ClR.walk (c := _) hc Tryz.func157 rfl (by kernel_rfl) rfl (fun e => by cases e) ?_
    simp only [entryEnv, Nat.reduceAdd]
    repeat' (first | (apply WO1.panic; exact rfl; (focus (intro cl rd; simp only [go_sem, *, Nat.reduceLT, Int.reduceEq, Int.reduceBEq, Int.reduceLE, Int.reduceLT, Nat.reduceAdd, Nat.reduceBEq, Nat.reduceEqDiff, reduceIte, Nat.reduceLeDiff, Nat.reduceMul, Nat.reduceSub, reduceCtorEq, efV, Fr.panicE]; with_reducible rfl)); simp only [tP, bP, eP, true_and]) | refine go1 ?_ | refine go2 (fun hh => ?_) (fun hh => ?_) | fail)
    all_goals rfl
def smallI (n : Int) : Bool := decide (-1000000 ≤ n) && decide (n ≤ 1000000)
theorem K154 {X : Ctx} (hX : X.intr 154 = some (atOnce spItoa)) (n : Int) (hn : smallI n = true) (h : Heap) : Cl X 154 [.int .i64 n] h (.ret (.str (itoaF n)) h none) :=
  Cl.intr hX (by
    unfold smallI at hn
    simp only [Bool.and_eq_true, decide_eq_true_eq] at hn
    have : (decide (-9223372036854775808 ≤ n) && decide (n ≤ 9223372036854775807)) = true := by simp only [Bool.and_eq_true, decide_eq_true_eq]; omega
    simp only [atOnce, spItoa, this, if_true])
theorem dec_is {l : List UInt8} {k : Nat} {c : UInt8} (h : l[k]? = some c) : ∃ r z : Nat, Utf8.decode ⟨l.toArray⟩ k = (r, z) ∧ (isDig c = true → r = c.toNat ∧ z = 1) ∧ (decide ((r : Int) ≥ 48) && decide ((r : Int) ≤ 57)) = isDig c := by
  by_cases hc : c.toNat < 128
  · refine ⟨c.toNat, 1, dec_asc h hc, fun _ => ⟨rfl, rfl⟩, ?_⟩
    unfold isDig
    rw [Bool.eq_iff_iff]
    simp only [Bool.and_eq_true, decide_eq_true_eq]
    omega
  · have hb := dec_big h hc
    cases hq : Utf8.decode ⟨l.toArray⟩ k with
    | mk r z =>
      rw [hq] at hb
      simp only at hb
      refine ⟨r, z, rfl, fun hd => ?_, ?_⟩
      · unfold isDig at hd
        simp only [Bool.and_eq_true, decide_eq_true_eq] at hd
        omega
      · unfold isDig
        rw [Bool.eq_iff_iff]
        simp only [Bool.and_eq_true, decide_eq_true_eq]
        omega
theorem val_next {d : List UInt8} {k : Nat} {c : UInt8} (h : d[k]? = some c) : valD (d.take (k + 1)) = 10 * valD (d.take k) + (c.toNat - 48) := by
  rw [take_next h, val_app]
theorem val_le {d : List UInt8} (h : d.all isDig = true) (hl : d.length ≤ 4) : valD d ≤ 9999 := by
  have h1 := val_lt d (fun c hc => List.all_eq_true.1 h c hc)
  have h2 : 10 ^ d.length ≤ 10 ^ 4 := Nat.pow_le_pow_right (by decide) hl
  omega
def numR (w : List UInt8) (h : Heap) (r : COut) : Prop := ∃ h', HExt h h' ∧ r = match numP w with | some n => .ret (.int .i64 n) h' none | none => .pan (.iface 207 (.agg [.str w])) h' none
theorem numR_fail {w : List UInt8} {h : Heap} : ¬ numR w h .fail := by
  rintro ⟨h', _, e⟩
  split at e <;> cases e
theorem numR_pan {w : List UInt8} {h h' : Heap} (x : HExt h h') (e : numP w = none) : numR w h (.pan (.iface 207 (.agg [.str w])) h' none) := ⟨h', x, by rw [e]⟩
theorem numR_ret {w : List UInt8} {h h' : Heap} {n : Int} (x : HExt h h') (e : numP w = some n) : numR w h (.ret (.int .i64 n) h' none) := ⟨h', x, by rw [e]⟩
theorem num_def (w : List UInt8) : numP w = if (w.all isDig && decide (w.length ≤ 4) && (!w.isEmpty && itoaF ((valD w : Nat) : Int) == w)) = true then some ((valD w : Nat) : Int) else none := rfl
attribute [local irreducible] numR
set_option maxHeartbeats 2000000 in
theorem C187 (c : FuncId → Option (List AV → Heap → Option (AV × Heap))) (hc : c 187 = none) (hc1 : c 157 = none) (hc3 : c 154 = some (atOnce spItoa)) (w : List UInt8) (h : Heap) (hw0 : w.length ≤ 60000) :
    ClR (dX c) 187 [.str w] h (numR w h) := by
  obtain ⟨hn, hm⟩ := h
  have u9 := Tryz.underlying9
  refine ClR.walk (c := _) hc Tryz.func187 rfl (by kernel_rfl) rfl numR_fail ?_
  simp only [entryEnv, Nat.reduceAdd]
  repeat' (first | (apply WO1.rangeS; exact Z1; exact Z2; exact rfl; simp only [pM, pN]) | refine go1 ?_ | refine go2 (fun hh => ?_) (fun hh => ?_) | fail)
  refine W.loopV (w.length) [0, 7] [] (fun k e lm hp => e.get 3 = some (.int .i64 ↑(valD (w.take k))) ∧ hp.get hn = some (.iter w k) ∧ (hn < hp.next ∧ ∀ id, id < hn → hp.get id = hm.get id) ∧ (w.take k).all isDig = true ∧ (k = 0 ∨ w.length ≤ 4)) ?_ ?_
  · skip
    refine ⟨?_, ?_, ⟨?_, fun id hid => ?_⟩, ?_, .inl rfl⟩
    all_goals first | exact Z2 | (simp [valD, go_sem, *, Nat.reduceLT, Int.reduceEq, Int.reduceBEq, Int.reduceLE, Int.reduceLT, Nat.reduceAdd, Nat.reduceBEq, Nat.reduceEqDiff, reduceIte, Nat.reduceLeDiff, Nat.reduceMul, Nat.reduceSub, reduceCtorEq]; done) | skip
    all_goals (have e1 : (hn == id) = false := by rw [beq_eq_false_iff_ne]; omega)
    all_goals simp only [go_sem, *, Nat.reduceLT, Int.reduceEq, Int.reduceBEq, Int.reduceLE, Int.reduceLT, Nat.reduceAdd, Nat.reduceBEq, Nat.reduceEqDiff, reduceIte, Nat.reduceLeDiff, Nat.reduceMul, Nat.reduceSub, reduceCtorEq]
  intro k e lm hp hk0 hce hcl hinv
  simp only [keepE, and_true] at hce
  obtain ⟨c0, c7⟩ := hce
  simp only [go_sem, *, Nat.reduceLT, Int.reduceEq, Int.reduceBEq, Int.reduceLE, Int.reduceLT, Nat.reduceAdd, Nat.reduceBEq, Nat.reduceEqDiff, reduceIte, Nat.reduceLeDiff, Nat.reduceMul, Nat.reduceSub, reduceCtorEq] at c0 c7
  clear hcl
  obtain ⟨h3, hgi, hx, hall, hk2⟩ := hinv
  by_cases hlt : k < w.length
  · have hd0 : decide ((k : Int) < ((w.length : Nat) : Int)) = true := by simpa using hlt
    have hv_0 := wrap_succ hlt (by unfold maxL; omega)
    obtain ⟨qn, qm⟩ := hp
    have HX := Lib.hid hx
    have HALL := Lib.hid hall
    have HK2 := Lib.hid hk2
    clear hx hall hk2
    obtain ⟨b, hb⟩ := get_some hlt
    obtain ⟨r, z, hdec, hr1, hr2⟩ := dec_is hb
    have HR1 := Lib.hid hr1
    have HR2 := Lib.hid hr2
    have HB := Lib.hid hb
    clear hr1 hr2 hb
    by_cases hok : (isDig b && decide ((w.length : Int) ≤ 4)) = true
    · simp only [Bool.and_eq_true] at hok
      obtain ⟨hbd, hd2⟩ := hok
      have hl2 : w.length ≤ 4 := by simp only [decide_eq_true_eq] at hd2; omega
      obtain ⟨rfl, rfl⟩ := HR1.out hbd
      have hr := HR2.out
      rw [hbd] at hr
      simp only [Bool.and_eq_true] at hr
      obtain ⟨hge, hle⟩ := hr
      have hbb := dig_bds hbd
      have hvb : valD (w.take k) ≤ 9999 := val_le HALL.out (by rw [List.length_take]; omega)
      have ws : IntKind.i32.wrap ((b.toNat : Int) - 48) = ((b.toNat - 48 : Nat) : Int) := by
        simp [IntKind.wrap, IntKind.bits, IntKind.signed]
        omega
      have wc : IntKind.i64.wrap ((b.toNat - 48 : Nat) : Int) = ((b.toNat - 48 : Nat) : Int) := wrap_small (by omega) (by omega)
      have wm : IntKind.i64.wrap (10 * ((valD (w.take k) : Nat) : Int)) = 10 * ((valD (w.take k) : Nat) : Int) := wrap_small (by omega) (by omega)
      have wn : IntKind.i64.wrap (10 * ((valD (w.take k) : Nat) : Int) + ((b.toNat - 48 : Nat) : Int)) = ((valD (w.take (k + 1)) : Nat) : Int) := by
        rw [val_next HB.out, wrap_small (by omega) (by omega)]
        omega
      have k157 := fun h => C157 c hc1 true w h
      simp only [sureC, if_true] at k157
      have HLT0 := Lib.hid hlt
      have HBD := Lib.hid hbd
      have HL2 := Lib.hid hl2
      clear hbd hl2 hbb hvb
      generalize hvn : valD (w.take (k + 1)) = vn at *
      generalize valD (w.take k) = vk at *
      generalize ((b.toNat - 48 : Nat) : Int) = bs at *
      have HVN := Lib.hid hvn
      clear hvn
      repeat' (first | (apply WO1.nextS (hr := hdec); exact Z1; (focus (exact hgi)); (focus (exact hlt)); exact rfl; simp only [pM, pN]) | refine go1 ?_ | (apply U6; exact Z1; exact Z1; (focus (simp only [List.nil_append, List.append_nil]; first | exact k157 _)); simp only [pM, pN, rR, rP]) | refine go2 (fun hh => ?_) (fun hh => ?_) | fail)
      all_goals refine contV_mk (by first | assumption | exact HLT0.out) (by simp only [keepE, and_true, and_self, go_sem, *, Nat.reduceLT, Int.reduceEq, Int.reduceBEq, Int.reduceLE, Int.reduceLT, Nat.reduceAdd, Nat.reduceBEq, Nat.reduceEqDiff, reduceIte, Nat.reduceLeDiff, Nat.reduceMul, Nat.reduceSub, reduceCtorEq]) (by simp only [keepL, and_true, and_self, go_sem, *, Nat.reduceLT, Int.reduceEq, Int.reduceBEq, Int.reduceLE, Int.reduceLT, Nat.reduceAdd, Nat.reduceBEq, Nat.reduceEqDiff, reduceIte, Nat.reduceLeDiff, Nat.reduceMul, Nat.reduceSub, reduceCtorEq]) ?_
      all_goals refine ⟨?_, ?_, ?_, ?_, ?_⟩
      all_goals first | exact Z2 | skip
      · rw [HVN.out]; simp only [go_sem, *, Nat.reduceLT, Int.reduceEq, Int.reduceBEq, Int.reduceLE, Int.reduceLT, Nat.reduceAdd, Nat.reduceBEq, Nat.reduceEqDiff, reduceIte, Nat.reduceLeDiff, Nat.reduceMul, Nat.reduceSub, reduceCtorEq]
      · refine ⟨HX.out.1, ?_⟩
        intro id hid
        have e1 : (hn == id) = false := by rw [beq_eq_false_iff_ne]; omega
        have : qm.get id = hm.get id := HX.out.2 id hid
        simp only [go_sem, *, Nat.reduceLT, Int.reduceEq, Int.reduceBEq, Int.reduceLE, Int.reduceLT, Nat.reduceAdd, Nat.reduceBEq, Nat.reduceEqDiff, reduceIte, Nat.reduceLeDiff, Nat.reduceMul, Nat.reduceSub, reduceCtorEq]
      · rw [take_next HB.out, List.all_append, HALL.out]
        simp [HBD.out]
      · exact .inr HL2.out
    · have hok : (isDig b && decide ((w.length : Int) ≤ 4)) = false := by simpa using hok
      have hno : numP w = none := by
        rw [num_def]
        have : (w.all isDig && decide (w.length ≤ 4)) = false := by
          rw [Bool.and_eq_false_iff] at hok ⊢
          rcases hok with q | q
          · left
            rw [List.all_eq_false]
            exact ⟨b, List.mem_of_getElem? HB.out, by rw [q]; decide⟩
          · right
            simp only [decide_eq_false_iff_not] at q ⊢
            omega
        rw [this]
        rfl
      have HNO := Lib.hid hno
      have k157 := fun h => C157 c hc1 false w h
      simp only [sureC, Bool.false_eq_true, if_false] at k157
      have hcase : (decide ((r : Int) ≥ 48) = false) ∨ (decide ((r : Int) ≥ 48) = true ∧ decide ((r : Int) ≤ 57) = false) ∨ (decide ((r : Int) ≥ 48) = true ∧ decide ((r : Int) ≤ 57) = true ∧ decide ((w.length : Int) ≤ 4) = false) := by
        have hr := HR2.out
        revert hok hr
        cases decide ((r : Int) ≥ 48) <;> cases decide ((r : Int) ≤ 57) <;> cases decide ((w.length : Int) ≤ 4) <;> cases isDig b <;> simp
      have HLT := Lib.hid hlt
      clear hok hno
      rcases hcase with hge | ⟨hge, hle⟩ | ⟨hge, hle, hd2⟩
      all_goals (
        repeat' (first | (apply WO1.nextS (hr := hdec); exact Z1; (focus (exact hgi)); (focus (exact hlt)); exact rfl; simp only [pM, pN]) | (simp only [tP, bP, eP, true_and]) | refine go1 ?_ | (apply U6; exact Z1; exact Z1; (focus (simp only [List.nil_append, List.append_nil]; first | exact k157 _)); simp only [pM, pN, rR, rP]) | refine go2 (fun hh => ?_) (fun hh => ?_) | fail)
        refine numR_pan ⟨Nat.le_of_lt HX.out.1, fun id hid => ?_⟩ HNO.out
        have hid : id < hn := hid
        have e1 : (hn == id) = false := by rw [beq_eq_false_iff_ne]; omega
        have : qm.get id = hm.get id := HX.out.2 id hid
        simp only [go_sem, *, Nat.reduceLT, Int.reduceEq, Int.reduceBEq, Int.reduceLE, Int.reduceLT, Nat.reduceAdd, Nat.reduceBEq, Nat.reduceEqDiff, reduceIte, Nat.reduceLeDiff, Nat.reduceMul, Nat.reduceSub, reduceCtorEq])
  · have hd0 : decide ((k : Int) < ((w.length : Nat) : Int)) = false := by simpa using hlt
    obtain rfl : k = w.length := by omega
    obtain ⟨qn, qm⟩ := hp
    rw [List.take_length] at h3 hall
    have hl4 : w.length ≤ 4 := by rcases hk2 with q | q <;> omega
    have hv : valD w ≤ 9999 := val_le hall hl4
    have hnw : numP w = if (!w.isEmpty && itoaF ((valD w : Nat) : Int) == w) = true then some ((valD w : Nat) : Int) else none := by
      rw [num_def, hall]
      simp [hl4]
    have hsn : smallI ((valD w : Nat) : Int) = true := by
      unfold smallI
      simp only [Bool.and_eq_true, decide_eq_true_eq]
      omega
    have k154 := fun h => K154 (X := dX c) hc3 _ hsn h
    have HNW := Lib.hid hnw
    have HLT := Lib.hid hlt
    have hxx : HExt ⟨hn, hm⟩ ⟨qn, qm⟩ := ⟨Nat.le_of_lt hx.1, hx.2⟩
    have HXX := Lib.hid hxx
    clear hnw hsn hxx hx hall hk2 hl4 hv
    have hemp2 : (w != ([] : List UInt8)) = !w.isEmpty := by cases w <;> rfl
    generalize ((valD w : Nat) : Int) = n at *
    generalize w.isEmpty = em at *
    generalize hq2 : (itoaF n == w) = eq at *
    cases em with
    | true =>
      have k157 := fun h => C157 c hc1 false w h
      simp only [sureC, Bool.false_eq_true, if_false] at k157
      repeat' (first | (apply WO1.nextN; exact Z1; (focus (exact hgi)); (focus (exact hlt)); exact rfl; simp only [pM, pN]) | (simp only [tP, bP, eP, true_and]) | refine go1 ?_ | (apply U6; exact Z1; exact Z1; (focus (simp only [List.nil_append, List.append_nil]; first | exact k157 _ | exact k154 _)); simp only [pM, pN, rR, rP]) | refine go2 (fun hh => ?_) (fun hh => ?_) | fail)
      exact numR_pan HXX.out (by rw [HNW.out]; rfl)
    | false =>
      cases eq with
      | true =>
        have k157 := fun h => C157 c hc1 true w h
        simp only [sureC, if_true] at k157
        repeat' (first | (apply WO1.nextN; exact Z1; (focus (exact hgi)); (focus (exact hlt)); exact rfl; simp only [pM, pN]) | refine go1 ?_ | (apply U6; exact Z1; exact Z1; (focus (simp only [List.nil_append, List.append_nil]; first | exact k157 _ | exact k154 _)); simp only [pM, pN, rR, rP]) | refine go2 (fun hh => ?_) (fun hh => ?_) | fail)
        all_goals simp only [resV_def (X := dX c) Tryz.func187, Tryz.results187, resultsV, resultV, go_sem, *, Nat.reduceLT, Int.reduceEq, Int.reduceBEq, Int.reduceLE, Int.reduceLT, Nat.reduceAdd, Nat.reduceBEq, Nat.reduceEqDiff, reduceIte, Nat.reduceLeDiff, Nat.reduceMul, Nat.reduceSub, reduceCtorEq, frzRes, dFrz, frzCells, isRet_ret, tupleOf]
        exact numR_ret HXX.out (by rw [HNW.out]; rfl)
      | false =>
        have k157 := fun h => C157 c hc1 false w h
        simp only [sureC, Bool.false_eq_true, if_false] at k157
        repeat' (first | (apply WO1.nextN; exact Z1; (focus (exact hgi)); (focus (exact hlt)); exact rfl; simp only [pM, pN]) | (simp only [tP, bP, eP, true_and]) | refine go1 ?_ | (apply U6; exact Z1; exact Z1; (focus (simp only [List.nil_append, List.append_nil]; first | exact k157 _ | exact k154 _)); simp only [pM, pN, rR, rP]) | refine go2 (fun hh => ?_) (fun hh => ?_) | fail)
        exact numR_pan HXX.out (by rw [HNW.out]; rfl)
def txtC : Cd (List UInt8) where
  enc s := .str s
  dec a := match a with | .str s => some s | _ => none
  de _ := rfl
  ed a x h := by split at h <;> cases h; rfl
  pur _ := rfl
theorem strs_idx {a : AV} {l : List (List UInt8)} (h : slV txtC a = some l) {k : Nat} {s : List UInt8} (hp : l[k]? = some s) (H : Heap) : indexAddrV Tryz.prog H 167 a (.int .i64 ↑k) = some (.vptr [.str s]) :=
  (slV_is h).1.idx (x := .str s) Tryz.underlying167 ty_lay9 (by simp [hp, txtC]) rfl
theorem strs_sl (l : List (List UInt8)) (h : l.length ≤ maxL) : slV txtC (.vslice (l.map AV.str)) = some l := by
  have := decL_map txtC l
  unfold slV
  simp only
  rw [if_pos (by rw [List.length_map]; exact h)]
  exact this
theorem spL_len (b : UInt8) : ∀ s : List UInt8, (spL b s).length ≤ s.length + 1 ∧ ∀ p ∈ spL b s, p.length ≤ s.length := by
  intro s
  induction s with
  | nil => exact ⟨Nat.le_refl _, fun p hp => by simp [spL] at hp; subst hp; exact Nat.le_refl _⟩
  | cons c r ih =>
    simp only [spL]
    split
    · refine ⟨by simp only [List.length_cons]; omega, fun p hp => ?_⟩
      rcases List.mem_cons.1 hp with rfl | hp
      · exact Nat.zero_le _
      · have := ih.2 p hp
        simp only [List.length_cons]
        omega
    · split
      · rename_i q
        exact absurd q (spL_ne b r)
      · rename_i p0 l q
        rw [q] at ih
        refine ⟨by have := ih.1; simp only [List.length_cons] at this ⊢; omega, fun p hp => ?_⟩
        rcases List.mem_cons.1 hp with rfl | hp
        · have := ih.2 p0 (List.mem_cons_self ..)
          simp only [List.length_cons]
          omega
        · have := ih.2 p (List.mem_cons_of_mem _ hp)
          simp only [List.length_cons]
          omega
def TxtV (h : Heap) (a : AV) (l : List (List UInt8)) : Prop := slV txtC a = some l ∨ ∃ id, a = .row id 0 l.length ∧ id < h.next ∧ h.get id = some (.rw 1 (l.map AV.str)) ∧ l.length ≤ maxL
theorem TxtV.ext {h h' : Heap} {a : AV} {l : List (List UInt8)} (t : TxtV h a l) (x : HExt h h') : TxtV h' a l := by
  rcases t with t | ⟨id, e, h1, h2, h3⟩
  · exact .inl t
  · exact .inr ⟨id, e, Nat.lt_of_lt_of_le h1 x.1, (x.2 id h1).trans h2, h3⟩
theorem TxtV.len {h : Heap} {a : AV} {l : List (List UInt8)} (t : TxtV h a l) : lenS a = some l.length ∧ outV (some a) = some a ∧ l.length ≤ maxL := by
  rcases t with t | ⟨id, rfl, h1, h2, h3⟩
  · exact ⟨sl_len t, sl_out t, sl_max t⟩
  · exact ⟨rfl, rfl, h3⟩
theorem TxtV.idx {h : Heap} {a : AV} {l : List (List UInt8)} (t : TxtV h a l) {k : Nat} {s : List UInt8} (hk : l[k]? = some s) :
    indexAddrV Tryz.prog h 167 a (.int .i64 ↑k) = some (.vptr [.str s]) ∨ ∃ id el, indexAddrV Tryz.prog h 167 a (.int .i64 ↑k) = some (.eptr id 1 k 0) ∧ h.get id = some (.rw 1 el) ∧ el[k]? = some (.str s) := by
  rcases t with t | ⟨id, rfl, h1, h2, h3⟩
  · exact .inl (strs_idx t hk h)
  · refine .inr ⟨id, l.map AV.str, ?_, h2, by simp [hk]⟩
    have hlt : k < l.length := (List.getElem?_eq_some_iff.1 hk).1
    have : idxV (.int .i64 ↑k) l.length = some k := by simp [idxV, hlt]
    simp only [indexAddrV, Tryz.underlying167, ty_lay9, this, h2, if_true, Nat.zero_add]
def intsE (l : List Int) : List AV := l.map (AV.int .i64)
theorem intsE_app (l : List Int) (n : Int) : intsE (l ++ [n]) = intsE l ++ [.int .i64 n] := by simp [intsE]
theorem intsE_len (l : List Int) : (intsE l).length = l.length := by simp [intsE]
def formS (f : Option (List UInt8)) : List UInt8 := match f with | some w => w | none => []
def numsR (s : List UInt8) (fs : List (Option (List UInt8))) (h : Heap) (r : COut) : Prop := ∃ h', HExt h h' ∧ match matchF (spL 32 s) fs with | some l => r = .ret (slN (intsE l)) h' none | none => ∃ u, r = .pan (.iface 207 (.agg [.str u])) h' none
theorem numsR_fail {s : List UInt8} {fs : List (Option (List UInt8))} {h : Heap} : ¬ numsR s fs h .fail := by
  rintro ⟨h', _, e⟩
  split at e
  · cases e
  · obtain ⟨u, e⟩ := e
    cases e
section
variable {s u : List UInt8} {fs : List (Option (List UInt8))} {h h' : Heap} {l : List Int}
theorem numsR_pan (x : HExt h h') (e : matchF (spL 32 s) fs = none) : numsR s fs h (.pan (.iface 207 (.agg [.str u])) h' none) := ⟨h', x, by rw [e]; exact ⟨u, rfl⟩⟩
theorem numsR_ret (x : HExt h h') (e : matchF (spL 32 s) fs = some l) : numsR s fs h (.ret (slN (intsE l)) h' none) := ⟨h', x, by rw [e]⟩
end
theorem match_len : ∀ {ws : List (List UInt8)} {fs : List (Option (List UInt8))} {l : List Int}, matchF ws fs = some l → ws.length = fs.length
  | [], [], _, _ => rfl
  | [], _ :: _, _, h => by simp [matchF] at h
  | _ :: _, [], _, h => by simp [matchF] at h
  | x :: xs, some w :: fs, l, h => by
    simp only [matchF] at h
    split at h
    · simp [match_len h]
    · cases h
  | x :: xs, none :: fs, l, h => by
    simp only [matchF] at h
    split at h
    · split at h
      · rename_i q; simp [match_len q]
      · cases h
    · cases h
def MoreF (ws : List (List UInt8)) (fs : List (Option (List UInt8))) (k : Nat) (acc : List Int) : Prop := matchF ws fs = (matchF (ws.drop k) (fs.drop k)).map (acc ++ ·)
section
variable {ws : List (List UInt8)} {fs : List (Option (List UInt8))} {k : Nat} {acc : List Int} {p : List UInt8}
theorem MoreF.zero : MoreF ws fs 0 [] := by unfold MoreF; simp
theorem drop_at {α : Type} {l : List α} {k : Nat} {a : α} (h : l[k]? = some a) : l.drop k = a :: l.drop (k + 1) := by
  obtain ⟨h1, h2⟩ := List.getElem?_eq_some_iff.1 h
  rw [List.drop_eq_getElem_cons h1, h2]
theorem MoreF.word (m : MoreF ws fs k acc) {w : List UInt8} (h1 : ws[k]? = some p) (h2 : fs[k]? = some (some w)) : (p = w → MoreF ws fs (k + 1) acc) ∧ (p ≠ w → matchF ws fs = none) := by
  unfold MoreF at m ⊢
  rw [drop_at h1, drop_at h2] at m
  simp only [matchF] at m
  exact ⟨fun e => by rw [if_pos e] at m; exact m, fun e => by rw [if_neg e] at m; exact m⟩
theorem MoreF.num (m : MoreF ws fs k acc) (h1 : ws[k]? = some p) (h2 : fs[k]? = some none) : (∀ n, numP p = some n → MoreF ws fs (k + 1) (acc ++ [n])) ∧ (numP p = none → matchF ws fs = none) := by
  unfold MoreF at m ⊢
  rw [drop_at h1, drop_at h2] at m
  simp only [matchF] at m
  refine ⟨fun n e => ?_, fun e => by rw [e] at m; exact m⟩
  rw [e] at m
  simp only at m
  rw [m]
  cases matchF (ws.drop (k + 1)) (fs.drop (k + 1)) with
  | none => rfl
  | some r => simp
theorem MoreF.fin (m : MoreF ws fs k acc) (h1 : ws.length = k) (h2 : fs.length = k) : matchF ws fs = some acc := by
  unfold MoreF at m
  rw [List.drop_of_length_le (by omega), List.drop_of_length_le (by omega)] at m
  simpa [matchF] using m
end
attribute [local irreducible] numsR matchF MoreF numP
set_option maxHeartbeats 4000000 in
theorem C158 (c : FuncId → Option (List AV → Heap → Option (AV × Heap))) (hc : c 158 = none) (hc0 : c 187 = none) (hc1 : c 157 = none) (hc3 : c 154 = some (atOnce spItoa)) (hc4 : c 156 = some (atOnce spSplit)) (s : List UInt8) (fa : AV) (fs : List (Option (List UInt8))) (h : Heap) (hs : s.length ≤ 1000)
    (hne : ∀ w, some w ∈ fs → w ≠ []) (hfa : TxtV h fa (fs.map formS)) : ClR (dX c) 158 [.str s, fa] h (numsR s fs h) := by
  have k156 := fun h => K156 (X := dX c) hc4 s 32 (by unfold maxL; omega) h
  obtain ⟨hl1, hl2⟩ := spL_len 32 s
  have hR : ∀ h' u, HExt h h' → matchF (spL 32 s) fs = none → numsR s fs h (.pan (.iface 207 (.agg [.str u])) h' none) := fun h' u x e => numsR_pan x e
  have hR2 : ∀ h' l, HExt h h' → matchF (spL 32 s) fs = some l → numsR s fs h (.ret (slN (intsE l)) h' none) := fun h' l x e => numsR_ret x e
  have hRF : ¬ numsR s fs h .fail := numsR_fail
  generalize numsR s fs h = R at *
  generalize spL 32 s = ws at *
  have ha := strs_sl ws (by unfold maxL; omega)
  have hlen := sl_len ha
  have hout := sl_out ha
  generalize AV.vslice (ws.map AV.str) = va at *
  obtain ⟨flen, fout, fmax⟩ := hfa.len
  rw [List.length_map] at flen fmax
  have HFA := Lib.hid hfa
  have HA := Lib.hid ha
  have HL2 := Lib.hid hl2
  have HNE := Lib.hid hne
  have HR := Lib.hid hR
  have HR2 := Lib.hid hR2
  clear hfa ha hl2 hne hR hR2
  by_cases hlw : ws.length = fs.length
  · have heq : ((ws.length : Int) == (fs.length : Int)) = true := by rw [beq_iff_eq]; omega
    have k157 := fun h => C157 c hc1 true s h
    simp only [sureC, if_true] at k157
    have HLW := Lib.hid hlw
    have HL1 := Lib.hid hl1
    clear hlw hl1
    refine ClR.walk (c := _) hc Tryz.func158 rfl (by kernel_rfl) rfl hRF ?_
    simp only [entryEnv, Nat.reduceAdd]
    repeat' (first | refine goS ?_ | (apply U6; exact Z1; exact Z1; (focus (simp only [List.nil_append, List.append_nil]; first | exact k156 _ | exact k157 _)); simp only [pM, pN, rR, rP]) | refine go2 (fun hh => ?_) (fun hh => ?_) | fail)
    clear k156 heq k157
    refine W.loopV (ws.length) [0, 1, 19, 20] [] (fun k e lm hp => ∃ u acc, e.get 21 = some (.int .i64 ↑k) ∧ e.get 6 = some (u) ∧ MoreF ws fs k acc ∧ BltN h.next hp u 1 (intsE acc) ∧ (h.next ≤ hp.next ∧ ∀ id, id < h.next → hp.get id = h.get id) ∧ acc.length ≤ k) ?_ ?_
    · skip
      refine ⟨.nilslice, [], ?_, ?_, MoreF.zero, BltN.nil, ⟨Nat.le_refl _, fun _ _ => rfl⟩, Nat.le_refl _⟩
      all_goals first | exact Z2 | simp [go_sem, *]
    intro k e lm hp hk0 hce hcl hinv
    simp only [keepE, and_true] at hce
    obtain ⟨c0, c1, c19, c20⟩ := hce
    simp only [go_sem, *, Nat.reduceLT, Int.reduceEq, Int.reduceBEq, Int.reduceLE, Int.reduceLT, Nat.reduceAdd, Nat.reduceBEq, Nat.reduceEqDiff, reduceIte, Nat.reduceLeDiff, Nat.reduceMul, Nat.reduceSub, reduceCtorEq] at c0 c1 c19 c20
    clear hcl
    obtain ⟨u, acc, h21, h6, hm, hB, hX, hal⟩ := hinv
    by_cases hlt : k < ws.length
    · have hd0 : decide ((k : Int) < ((ws.length : Nat) : Int)) = true := by simpa using hlt
      have hv_0 := wrap_succ hlt (by have := HL1.out; unfold maxL; omega)
      have hbo := hB.blt.out
      have HM := Lib.hid hm
      have HAL := Lib.hid hal
      have HX := Lib.hid hX
      obtain ⟨p, hp'⟩ := get_some hlt
      obtain ⟨f, hf'⟩ := get_some (show k < fs.length by rw [← HLW.out]; exact hlt)
      have hix := fun H => strs_idx HA.out hp' H
      have hpl := HL2.out p (List.mem_of_getElem? hp')
      have hmem := List.mem_of_getElem? hf'
      have hfi := (HFA.out.ext hX).idx (k := k) (s := formS f) (by rw [List.getElem?_map, hf']; rfl)
      have HLT0 := Lib.hid hlt
      have HP := Lib.hid hp'
      have HF := Lib.hid hf'
      clear hm hal hp' hf'
      cases f with
      | some w =>
        have hw0 : (w != ([] : List UInt8)) = true := by
          have := HNE.out w hmem
          cases w with
          | nil => exact absurd rfl this
          | cons a b => rfl
        have hmw := HM.out.word HP.out HF.out
        clear hmem hlt
        simp only [formS] at hfi
        by_cases hpw : p = w
        · have hq : (p == w) = true := by rw [hpw]; exact beq_self_eq_true w
          have k157 := fun h => C157 c hc1 true s h
          simp only [sureC, if_true] at k157
          have HMW := Lib.hid (hmw.1 hpw)
          clear hmw hpw
          rcases hfi with hfi | ⟨fi, fel, hfi, hfg, hfe⟩
          all_goals
            repeat' (first | refine goS ?_ | (apply U6; exact Z1; exact Z1; (focus (simp only [List.nil_append, List.append_nil]; first | exact k157 _)); simp only [pM, pN, rR, rP]) | refine go2 (fun hh => ?_) (fun hh => ?_) | fail)
            all_goals refine contV_mk (by first | assumption | exact HLT0.out) (by simp only [keepE, and_true, and_self, go_sem, *, Nat.reduceLT, Int.reduceEq, Int.reduceBEq, Int.reduceLE, Int.reduceLT, Nat.reduceAdd, Nat.reduceBEq, Nat.reduceEqDiff, reduceIte, Nat.reduceLeDiff, Nat.reduceMul, Nat.reduceSub, reduceCtorEq]) (by simp only [keepL, and_true, and_self, go_sem, *, Nat.reduceLT, Int.reduceEq, Int.reduceBEq, Int.reduceLE, Int.reduceLT, Nat.reduceAdd, Nat.reduceBEq, Nat.reduceEqDiff, reduceIte, Nat.reduceLeDiff, Nat.reduceMul, Nat.reduceSub, reduceCtorEq]) ?_
            all_goals refine ⟨u, acc, ?_, ?_, HMW.out, hB, hX, ?_⟩
            all_goals first | exact Z2 | skip
            have := HAL.out
            omega
        · have hq : (p == w) = false := by simpa using hpw
          have k157 := fun h => C157 c hc1 false s h
          simp only [sureC, Bool.false_eq_true, if_false] at k157
          have HMW := Lib.hid (hmw.2 hpw)
          clear hmw hpw
          rcases hfi with hfi | ⟨fi, fel, hfi, hfg, hfe⟩
          all_goals
            repeat' (first | (simp only [tP, bP, eP, true_and]) | refine go1 ?_ | (apply U6; exact Z1; exact Z1; (focus (simp only [List.nil_append, List.append_nil]; first | exact k157 _)); simp only [pM, pN, rR, rP]) | refine go2 (fun hh => ?_) (fun hh => ?_) | fail)
            exact HR.out _ _ HX.out HMW.out
      | none =>
        have hmw := HM.out.num HP.out HF.out
        have hw0 : (([] : List UInt8) != ([] : List UInt8)) = false := rfl
        clear hmem hlt
        simp only [formS] at hfi
        have hc1' := C187 c hc0 hc1 hc3 p hp (by omega)
        unfold ClR numR at hc1'
        obtain ⟨r, hcl, hq, hqx, hr⟩ := hc1'
        have hx2 : HExt h hq := HExt.trans hX hqx
        have HX2 := Lib.hid hx2
        cases hnw : numP p with
        | none =>
          rw [hnw] at hr
          simp only at hr
          subst hr
          have HMW := Lib.hid (hmw.2 hnw)
          clear hmw hnw hqx hX hB hx2
          rcases hfi with hfi | ⟨fi, fel, hfi, hfg, hfe⟩
          all_goals
            repeat' (first | (simp only [tP, bP, eP, true_and]) | refine go1 ?_ | (apply U6; exact Z1; exact Z1; (focus (simp only [List.nil_append, List.append_nil]; first | exact hcl)); simp only [pM, pN, rR, rP]) | refine go2 (fun hh => ?_) (fun hh => ?_) | fail)
            exact HR.out _ _ HX2.out HMW.out
        | some v =>
          rw [hnw] at hr
          simp only at hr
          subst hr
          have HMW := Lib.hid (hmw.1 v hnw)
          replace hB := hB.keep hqx
          replace hX : h.next ≤ hq.next ∧ ∀ id, id < h.next → hq.get id = h.get id := hx2
          have hbo := hB.blt.out
          have hll : (intsE acc).length + 1 ≤ most := by rw [intsE_len]; have := HAL.out; have := HL1.out; have := HLT0.out; unfold most; omega
          clear hqx hmw hnw hx2
          rcases hfi with hfi | ⟨fi, fel, hfi, hfg, hfe⟩
          all_goals
            repeat' (first | (apply WO1.appendN (t := 24) (u := 24) (e := 3) (e' := 3) (sz := 1) (tl := []) (b := h.next) (h0 := h) (hb := hB) (hx := hX); exact Z1; exact rfl; exact Z2; exact Z2; exact Z2; (focus (exact ty_row24)); exact Z1; (focus (intro v hv; simp at hv; subst hv; rfl)); (focus (simp only [List.length_map, List.length_cons, List.length_nil]; exact hll)); (focus (simp)); (intro v' h' hB' ho' hX'; simp only [pM, pN])) | refine go1 ?_ | (apply U6; exact Z1; exact Z1; (focus (simp only [List.nil_append, List.append_nil]; first | exact hcl)); simp only [pM, pN, rR, rP]) | refine go2 (fun hh => ?_) (fun hh => ?_) | fail)
            all_goals refine contV_mk (by first | assumption | exact HLT0.out) (by simp only [keepE, and_true, and_self, go_sem, *, Nat.reduceLT, Int.reduceEq, Int.reduceBEq, Int.reduceLE, Int.reduceLT, Nat.reduceAdd, Nat.reduceBEq, Nat.reduceEqDiff, reduceIte, Nat.reduceLeDiff, Nat.reduceMul, Nat.reduceSub, reduceCtorEq]) (by simp only [keepL, and_true, and_self, go_sem, *, Nat.reduceLT, Int.reduceEq, Int.reduceBEq, Int.reduceLE, Int.reduceLT, Nat.reduceAdd, Nat.reduceBEq, Nat.reduceEqDiff, reduceIte, Nat.reduceLeDiff, Nat.reduceMul, Nat.reduceSub, reduceCtorEq]) ?_
            all_goals refine ⟨v', acc ++ [v], ?_, ?_, HMW.out, ?_, hX', ?_⟩
            all_goals first | exact Z2 | skip
            · rw [intsE_app]; exact hB'
            · have := HAL.out; simp; omega
    · have hd0 : decide ((k : Int) < ((ws.length : Nat) : Int)) = false := by simpa using hlt
      obtain rfl : k = ws.length := by omega
      have hfin := hm.fin rfl HLW.out.symm
      obtain ⟨h', hz, hz2, hz1, g1, g2⟩ := hB.freeze
      have hx2 : HExt h h' := ⟨by rw [g1]; exact hX.1, fun id hid => (g2 id hid).trans (hX.2 id hid)⟩
      have HNN := Lib.hid hfin
      have HX2 := Lib.hid hx2
      have hbo := hB.blt.out
      clear hfin g1 g2 hx2 hX hB hm
      repeat' (first | refine goS ?_ | refine go2 (fun hh => ?_) (fun hh => ?_) | fail)
      all_goals simp only [resV_def (X := dX c) Tryz.func158, Tryz.results158, resultsV, resultV, go_sem, *, Nat.reduceLT, Int.reduceEq, Int.reduceBEq, Int.reduceLE, Int.reduceLT, Nat.reduceAdd, Nat.reduceBEq, Nat.reduceEqDiff, reduceIte, Nat.reduceLeDiff, Nat.reduceMul, Nat.reduceSub, reduceCtorEq, frzRes, dFrz, frzCells, isRet_ret, tupleOf]
      exact HR2.out _ _ HX2.out HNN.out
  · have heq : ((ws.length : Int) == (fs.length : Int)) = false := by rw [beq_eq_false_iff_ne]; omega
    have k157 := fun h => C157 c hc1 false s h
    simp only [sureC, Bool.false_eq_true, if_false] at k157
    have hnn : matchF ws fs = none := by
      cases q : matchF ws fs with
      | none => rfl
      | some l => exact absurd (match_len q) hlw
    have HNN := Lib.hid hnn
    clear hnn hlw hl1
    refine ClR.walk (c := _) hc Tryz.func158 rfl (by kernel_rfl) rfl hRF ?_
    simp only [entryEnv, Nat.reduceAdd]
    repeat' (first | (simp only [tP, bP, eP, true_and]) | refine go1 ?_ | (apply U6; exact Z1; exact Z1; (focus (simp only [List.nil_append, List.append_nil]; first | exact k156 _ | exact k157 _)); simp only [pM, pN, rR, rP]) | refine go2 (fun hh => ?_) (fun hh => ?_) | fail)
    exact HR.out _ _ (HExt.refl _) HNN.out
end Go.AM
set_option linter.unusedSectionVars false
set_option linter.unusedVariables false
set_option linter.unusedSimpArgs false
set_option maxRecDepth 100000
namespace Go.AM
open Go Go.Proofs
variable [Keep]
attribute [local irreducible] W WO WO1 WD WQ WT thenQ blockQ endR isRet retK Cl ClR
open Go.TX (Rm Fa Ha Hs lineW houseL roomL fanL openL handL linesH ck ck1 endL allL textH smallH smallP wHouse wRoom wMake wWait wStart wFan wOpen wHand)
theorem itoa_len (n : Int) : (itoaF n).length ≤ 21 := by
  cases n with
  | ofNat u => have := TX.digF_len 20 u; show (digF 20 u).length ≤ 21; omega
  | negSucc u => have := TX.digF_len 20 (u + 1); show (45 :: digF 20 (u + 1)).length ≤ 21; simp only [List.length_cons]; omega
def lineT (w : List UInt8) (ns : List Int) : List UInt8 := lineW w (ns.map itoaF)
theorem lineT_next {w : List UInt8} {ns : List Int} {k : Nat} {n : Int} (h : ns[k]? = some n) : lineT w (ns.take (k + 1)) = lineT w (ns.take k) ++ ([32] ++ itoaF n) := by
  unfold lineT lineW
  rw [take_next h, List.map_append, List.flatMap_append, List.append_assoc]
  simp
theorem lineT_len (w : List UInt8) (ns : List Int) : (lineT w ns).length ≤ w.length + 22 * ns.length := by
  unfold lineT lineW
  rw [List.length_append]
  have : ∀ l : List Int, ((l.map itoaF).flatMap fun x => 32 :: x).length ≤ 22 * l.length := by
    intro l
    induction l with
    | nil => exact Nat.zero_le _
    | cons n l ih =>
      have := itoa_len n
      simp only [List.map_cons, List.flatMap_cons, List.length_append, List.length_cons] at ih ⊢
      omega
  have := this ns
  omega
def sp152 : List AV → Option AV
  | [.str w, a] => match slV intC a with
    | some ns => if (ns.all smallI && decide (w.length ≤ 1000) && decide (ns.length ≤ 1000)) = true then some (.str (lineT w ns)) else none
    | none => none
  | _ => none
theorem p152 : ∀ args v, sp152 args = some v → v.pur = true := by
  intro args v h
  unfold sp152 at h
  split at h
  · split at h
    · split at h
      · cases h; rfl
      · cases h
    · cases h
  · cases h
noncomputable def c152 : FuncId → Option (List AV → Heap → Option (AV × Heap))
  | 154 => some (atOnce spItoa)
  | _ => none
theorem c152_sound (hT : TabK Tryz.prog) : Sound (dX c152) := dX_sound (fun f g h => by
  unfold c152 at h
  split at h
  · cases h; exact F154 hT
  · cases h)
set_option maxHeartbeats 1000000 in
theorem F152 (hT : TabK Tryz.prog) : IntrFn Tryz.prog 152 (pureFn sp152) := by
  refine pure_fn (X := dX c152) (c152_sound hT) p152 ?_
  intro args v h
  unfold sp152 at h
  split at h
  · rename_i w a
    split at h
    · rename_i ns hl
      split at h
      · rename_i hg
        have h := Option.some.inj h
        subst h
        simp only [Bool.and_eq_true, decide_eq_true_eq] at hg
        obtain ⟨⟨hsm, hwl⟩, hnl⟩ := hg
        have hlen := sl_len hl
        have hout := sl_out hl
        have HL := Lib.hid hl
        have HS := Lib.hid hsm
        clear hl hsm
        refine ClR.walk (c := _) rfl Tryz.func152 rfl (by kernel_rfl) rfl isRet_fail ?_
        simp only [entryEnv, Nat.reduceAdd]
        repeat' (first | refine goS ?_ | refine go2 (fun hh => ?_) (fun hh => ?_) | fail)
        refine W.loopH (ns.length) [7, 8] [] (fun k e lm => e.get 9 = some (.int .i64 ↑k) ∧ e.get 0 = some (.str (lineT w (ns.take k)))) ?_ ?_
        · refine ⟨?_, ?_⟩ <;> first | exact Z2 | rfl | assumption | (simp [lineT,lineW,go_sem, *, Nat.reduceLT, Int.reduceEq, Int.reduceBEq, Int.reduceLE, Int.reduceLT, Nat.reduceAdd, Nat.reduceBEq, Nat.reduceEqDiff, reduceIte, Nat.reduceLeDiff, Nat.reduceMul, Nat.reduceSub, reduceCtorEq]) | (simp [go_sem, *]; done)
        intro k e lm hk0 hce hcl hinv
        simp only [keepE, and_true] at hce
        obtain ⟨c7, c8⟩ := hce
        simp only [go_sem, *, Nat.reduceLT, Int.reduceEq, Int.reduceBEq, Int.reduceLE, Int.reduceLT, Nat.reduceAdd, Nat.reduceBEq, Nat.reduceEqDiff, reduceIte, Nat.reduceLeDiff, Nat.reduceMul, Nat.reduceSub, reduceCtorEq] at c7 c8
        clear hcl
        obtain ⟨h9, h0⟩ := hinv
        by_cases hlt : k < ns.length
        · have hd0 : decide ((k : Int) < ((ns.length : Nat) : Int)) = true := by simpa using hlt
          have hv_0 := wrap_succ hlt (by unfold maxL; omega)
          obtain ⟨n, hn⟩ := get_some hlt
          have hix := fun H => ints_idx HL.out hn H
          have hsi := List.all_eq_true.1 HS.out n (List.mem_of_getElem? hn)
          have k154 := fun h => K154 (X := dX c152) rfl n hsi h
          have hnx := lineT_next (w := w) hn
          have hi1 := itoa_len n
          have hi2 := lineT_len w (ns.take k)
          have hi3 : (ns.take k).length ≤ 1000 := by rw [List.length_take]; omega
          have HNX := Lib.hid hnx
          have HLT0 := Lib.hid hlt
          clear hn hsi hnx hlt
          generalize itoaF n = d at *
          generalize lineT w (ns.take k) = acc at *
          repeat' (first | (apply WO1.sadd; exact Z1; exact Z1; exact rfl; (focus (first | omega | (simp only [List.length_append, List.length_cons, List.length_nil]; omega))); simp only [pM, pN]) | refine go1 ?_ | (apply U6; exact Z1; exact Z1; (focus (simp only [List.nil_append, List.append_nil]; first | exact k154 _)); simp only [pM, pN, rR, rP]) | refine go2 (fun hh => ?_) (fun hh => ?_) | fail)
          all_goals refine contH_mk (by first | assumption | exact HLT0.out) (by simp only [keepE, and_true, and_self, go_sem, *, Nat.reduceLT, Int.reduceEq, Int.reduceBEq, Int.reduceLE, Int.reduceLT, Nat.reduceAdd, Nat.reduceBEq, Nat.reduceEqDiff, reduceIte, Nat.reduceLeDiff, Nat.reduceMul, Nat.reduceSub, reduceCtorEq]) (by simp only [keepL, and_true, and_self, go_sem, *, Nat.reduceLT, Int.reduceEq, Int.reduceBEq, Int.reduceLE, Int.reduceLT, Nat.reduceAdd, Nat.reduceBEq, Nat.reduceEqDiff, reduceIte, Nat.reduceLeDiff, Nat.reduceMul, Nat.reduceSub, reduceCtorEq]) ?_
          all_goals refine ⟨?_, ?_⟩
          all_goals first | exact Z2 | skip
          rw [HNX.out]
          simp only [go_sem, *, Nat.reduceLT, Int.reduceEq, Int.reduceBEq, Int.reduceLE, Int.reduceLT, Nat.reduceAdd, Nat.reduceBEq, Nat.reduceEqDiff, reduceIte, Nat.reduceLeDiff, Nat.reduceMul, Nat.reduceSub, reduceCtorEq]
        · have hd0 : decide ((k : Int) < ((ns.length : Nat) : Int)) = false := by simpa using hlt
          obtain rfl : k = ns.length := by omega
          rw [List.take_length] at h0
          repeat' (first | refine goS ?_ | refine go2 (fun hh => ?_) (fun hh => ?_) | fail)
          all_goals simp only [resV_def (X := dX c152) Tryz.func152, Tryz.results152, resultsV, resultV, go_sem, *, Nat.reduceLT, Int.reduceEq, Int.reduceBEq, Int.reduceLE, Int.reduceLT, Nat.reduceAdd, Nat.reduceBEq, Nat.reduceEqDiff, reduceIte, Nat.reduceLeDiff, Nat.reduceMul, Nat.reduceSub, reduceCtorEq, frzRes, dFrz, frzCells, isRet_ret, tupleOf]
          all_goals rfl
      · cases h
    · cases h
  · cases h
theorem K152 {X : Ctx} (hX : X.intr 152 = some (pureFn sp152)) (w : List UInt8) (a : AV) (ns : List Int) (hl : slV intC a = some ns) (hn : ns.all smallI = true) (hw : w.length ≤ 1000) (hnl : ns.length ≤ 1000) (h : Heap) : Cl X 152 [.str w, a] h (.ret (.str (lineT w ns)) h none) := by
  have : (ns.all smallI && decide (w.length ≤ 1000) && decide (ns.length ≤ 1000)) = true := by
    simp only [Bool.and_eq_true, decide_eq_true_eq]; exact ⟨⟨hn, hw⟩, hnl⟩
  exact Cl.intr hX (by simp only [pureFn, AV.pur, AV.purL, sl_pur hl, Bool.and_self, if_true, sp152, hl, this])
theorem K152g {X : Ctx} (hX : X.intr 152 = some (pureFn sp152)) (w : List UInt8) (ns : List Int) (hn : ns.all smallI = true) (hw : w.length ≤ 1000) (hl : ns.length ≤ 10) (h : Heap) : Cl X 152 [.str w, .vslice (ns.map (AV.int .i64))] h (.ret (.str (lineT w ns)) h none) :=
  K152 hX w _ ns (by
    have := decL_map intC ns
    unfold slV
    simp only
    rw [if_pos (by rw [List.length_map]; unfold maxL; omega)]
    exact this) hn hw (by omega) h
def rwV : AV := .agg [.str wRoom, .str wMake, .str wWait, .str wStart]
def sp151 : List AV → Option AV
  | [] => some rwV
  | _ => none
theorem F151 : IntrFn Tryz.prog 151 (pureFn sp151) := by
  refine pure_fn (X := dX i0) i0_sound (fun a v h => by unfold sp151 at h; split at h <;> cases h; rfl) ?_
  intro args v h
  unfold sp151 at h
  split at h
  · cases h
    refine ClR.walk (c := _) rfl Tryz.func151 rfl (by kernel_rfl) rfl isRet_fail ?_
    simp only [entryEnv, Nat.reduceAdd]
    repeat' (first | refine goS ?_ | refine go2 (fun hh => ?_) (fun hh => ?_) | fail)
    all_goals simp only [resV_def (X := dX i0) Tryz.func151, Tryz.results151, resultsV, resultV, go_sem, *, Nat.reduceLT, Int.reduceEq, Int.reduceBEq, Int.reduceLE, Int.reduceLT, Nat.reduceAdd, Nat.reduceBEq, Nat.reduceEqDiff, reduceIte, Nat.reduceLeDiff, Nat.reduceMul, Nat.reduceSub, reduceCtorEq, frzRes, dFrz, frzCells, isRet_ret, tupleOf]
    all_goals rfl
  · cases h
theorem K151 {X : Ctx} (hX : X.intr 151 = some (pureFn sp151)) (h : Heap) : Cl X 151 [] h (.ret rwV h none) := Cl.intr hX rfl
theorem ck1_app : ∀ (a b : List UInt8) (k : Nat), ck1 k (a ++ b) = ck1 k a + ck1 (k + a.length) b := by
  intro a
  induction a with
  | nil => intro b k; simp [ck1]
  | cons x a ih =>
    intro b k
    simp only [List.cons_append, ck1, ih, List.length_cons]
    rw [show k + 1 + a.length = k + (a.length + 1) by omega]
    omega
theorem ck_app : ∀ (a b : List (List UInt8)), ck (a ++ b) = ck a + ck b := by
  intro a
  induction a with
  | nil => intro b; simp [ck]
  | cons x a ih =>
    intro b
    simp only [List.cons_append, ck, ih]
    omega
theorem ck1_next {l : List UInt8} {j : Nat} {b : UInt8} (h : l[j]? = some b) : ck1 0 (l.take (j + 1)) = ck1 0 (l.take j) + b.toNat * (j + 1) := by
  have hj : j < l.length := (List.getElem?_eq_some_iff.1 h).1
  rw [take_next h, ck1_app]
  simp only [ck1, List.length_take, Nat.min_eq_left (Nat.le_of_lt hj), Nat.zero_add, Nat.add_zero]
theorem ck_next {L : List (List UInt8)} {k : Nat} {l : List UInt8} (h : L[k]? = some l) : ck (L.take (k + 1)) = ck (L.take k) + ck1 0 l := by
  rw [take_next h, ck_app]
  simp only [ck, Nat.add_zero]
theorem ck1_le : ∀ (l : List UInt8) (k : Nat), ck1 k l ≤ l.length * (255 * (k + l.length)) := by
  intro l
  induction l with
  | nil => intro k; simp [ck1]
  | cons b l ih =>
    intro k
    have h1 := ih (k + 1)
    have hb := b.toNat_lt
    simp only [ck1, List.length_cons]
    have h2 : b.toNat * (k + 1) ≤ 255 * (k + (l.length + 1)) := Nat.mul_le_mul (by omega) (by omega)
    have h3 : (l.length + 1) * (255 * (k + (l.length + 1))) = l.length * (255 * (k + (l.length + 1))) + 255 * (k + (l.length + 1)) := by rw [Nat.add_mul, Nat.one_mul]
    have h4 : k + 1 + l.length = k + (l.length + 1) := by omega
    rw [h4] at h1
    omega
theorem ck1_take_le {l : List UInt8} (hl : l.length ≤ 4000) (j : Nat) : ck1 0 (l.take j) ≤ 4080000000 := by
  have h1 := ck1_le (l.take j) 0
  have h2 : (l.take j).length ≤ 4000 := by rw [List.length_take]; omega
  have h3 : (l.take j).length * (255 * (0 + (l.take j).length)) ≤ 4000 * (255 * 4000) := Nat.mul_le_mul h2 (by omega)
  omega
theorem ck_le {L : List (List UInt8)} (hl : ∀ l ∈ L, l.length ≤ 4000) : ck L ≤ 4080000000 * L.length := by
  induction L with
  | nil => simp [ck]
  | cons a L ih =>
    have h1 := ih (fun l h => hl l (List.mem_cons_of_mem _ h))
    have h2 := ck1_take_le (hl a (List.mem_cons_self ..)) a.length
    rw [List.take_length] at h2
    simp only [ck, List.length_cons]
    omega
theorem ck_take_le {L : List (List UInt8)} (hl : ∀ l ∈ L, l.length ≤ 4000) (hn : L.length ≤ 2000) (k : Nat) : ck (L.take k) ≤ 8160000000000 := by
  have h1 := ck_le (L := L.take k) (fun l h => hl l (List.mem_of_mem_take h))
  have h2 : (L.take k).length ≤ 2000 := by rw [List.length_take]; omega
  omega
theorem join_text (L : List (List UInt8)) (e : List UInt8) : Lib.join (L ++ [e]) [10] ++ [10] = (L ++ [e]).flatMap fun l => l ++ [10] := by
  induction L with
  | nil => simp [Lib.join_one]
  | cons a L ih =>
    have : Lib.join (a :: (L ++ [e])) [10] = a ++ [10] ++ Lib.join (L ++ [e]) [10] := by
      rw [Lib.join_cons]
      cases q : L ++ [e] with
      | nil => simp at q
      | cons b r =>
        rw [Lib.join_cons]
        simp [Lib.joinTail]
    rw [List.cons_append, this, List.append_assoc, ih]
    simp
theorem strsOf_map : ∀ xs : List (List UInt8), strsOf (xs.map AV.str) = some xs := by
  intro xs
  induction xs with
  | nil => rfl
  | cons a r ih => simp [strsOf, ih]
theorem K153 {X : Ctx} (hX : X.intr 153 = some spJoin) {a : AV} {xs : List (List UInt8)} {s : List UInt8} {h : Heap} (he : h.elems a = some (xs.map AV.str)) (h0 : s.length ≤ 1) (h1 : xs.length ≤ maxL) (h2 : (Lib.join xs s).length ≤ maxL) : Cl X 153 [a, .str s] h (.ret (.str (Lib.join xs s)) h none) :=
  Cl.intr hX (by
    have : (Nat.ble xs.length maxL && Nat.ble (Lib.join xs s).length maxL) = true := by
      simp only [Bool.and_eq_true, Nat.ble_eq]; exact ⟨h1, h2⟩
    simp only [spJoin, he, strsOf_map, this, if_true])
theorem row_str {u : AV} {L : List (List UInt8)} {hp : Heap} {b : Nat} (hB : BltN b hp u 1 (L.map AV.str)) {k : Nat} {l : List UInt8} (hk : L[k]? = some l) :
    ∃ id, indexAddrV Tryz.prog hp 167 u (.int .i64 ↑k) = some (.eptr id 1 k 0) ∧ hp.get id = some (.rw 1 (L.map AV.str)) ∧ (L.map AV.str)[k]? = some (.str l) := by
  have hlt : k < (L.map AV.str).length := by rw [List.length_map]; exact (List.getElem?_eq_some_iff.1 hk).1
  obtain ⟨id, h1, h2⟩ := hB.blt.idx (P := Tryz.prog) Tryz.underlying167 ty_lay9 hlt
  exact ⟨id, h1, h2, by simp [hk]⟩
theorem idx_j {l : List UInt8} {j : Nat} (hj : j < l.length) : idxV (.int .i64 ↑j) l.length = some j := by simp [idxV, hj]
theorem ix200_0 (H : Heap) (s g : Nat) : indexAddrV Tryz.prog H 200 (.lptr s g 0) (.int .i64 0) = some (.lptr s g 0) := by simp [indexAddrV, Tryz.underlying200, idxV, ty_lay9, ptrAdd]
theorem ix200_1 (H : Heap) (s g : Nat) : indexAddrV Tryz.prog H 200 (.lptr s g 0) (.int .i64 1) = some (.lptr s g 1) := by simp [indexAddrV, Tryz.underlying200, idxV, ty_lay9, ptrAdd]
theorem ix200_2 (H : Heap) (s g : Nat) : indexAddrV Tryz.prog H 200 (.lptr s g 0) (.int .i64 2) = some (.lptr s g 2) := by simp [indexAddrV, Tryz.underlying200, idxV, ty_lay9, ptrAdd]
theorem ix200_3 (H : Heap) (s g : Nat) : indexAddrV Tryz.prog H 200 (.lptr s g 0) (.int .i64 3) = some (.lptr s g 3) := by simp [indexAddrV, Tryz.underlying200, idxV, ty_lay9, ptrAdd]
attribute [go_sem] ix200_0 ix200_1 ix200_2 ix200_3
theorem smallP_I {n : Int} (h : smallP n = true) : smallI n = true := by
  unfold smallP at h
  unfold smallI
  simp only [Bool.and_eq_true, decide_eq_true_eq] at h ⊢
  omega
theorem room_join (r : Rm) : Lib.join [lineT wRoom [r.lo, r.hi], lineT wMake [r.mke], lineT wWait [r.wt], lineT wStart [r.stt]] [32] = roomL r := by
  simp [Lib.join_cons, Lib.joinTail, lineT, roomL, lineW]
def okT (h : Hs) : Bool := smallH h && decide (h.rooms.length + h.fans.length + h.hands.length ≤ 600) && decide (h.op.length ≤ 600)
theorem text_40 {h : Hs} (hs : smallH h = true) (h1 : h.rooms.length + h.fans.length + h.hands.length ≤ 600) (h2 : h.op.length ≤ 600) : (textH h).length ≤ 40000 := by
  rw [TX.text_len_eq]
  have e : ((allL h).map fun l => l.length + 1).sum = ((houseL h).length + 1) + ((h.rooms.map roomL).map fun l => l.length + 1).sum + ((h.fans.map fanL).map fun l => l.length + 1).sum + ((openL h).length + 1) + ((h.hands.map handL).map fun l => l.length + 1).sum + ((endL (ck (linesH h) % 107)).length + 1) := by
    unfold allL
    simp only [linesH, List.map_append, List.map_cons, List.sum_append, List.sum_cons, List.map_nil, List.sum_nil]
    omega
  rw [e]
  have a1 := TX.house_len (TX.sm_hours hs)
  have a2 := TX.open_len (TX.sm_op hs)
  have a3 := (TX.end_ok (c := ck (linesH h) % 107) (Nat.mod_lt _ (by decide))).2
  have a4 := TX.sumL_le (B := 52) (L := h.rooms.map roomL) (fun l hl => by obtain ⟨r, hr, rfl⟩ := List.mem_map.1 hl; exact TX.room_len (TX.sm_room hs hr))
  have a5 := TX.sumL_le (B := 52) (L := h.fans.map fanL) (fun l hl => by obtain ⟨r, hr, rfl⟩ := List.mem_map.1 hl; exact Nat.le_trans (TX.fan_len (TX.sm_fan hs hr)) (by omega))
  have a6 := TX.sumL_le (B := 52) (L := h.hands.map handL) (fun l hl => by obtain ⟨r, hr, rfl⟩ := List.mem_map.1 hl; exact Nat.le_trans (TX.hand_len (TX.sm_hand hs hr)) (by omega))
  rw [List.length_map] at a4 a5 a6
  omega
theorem lines_4000 {h : Hs} (hs : smallH h = true) (ho : h.op.length ≤ 600) : ∀ l ∈ linesH h, l.length ≤ 4000 := by
  intro l hl
  unfold linesH at hl
  simp only [List.mem_cons, List.mem_append, List.mem_map] at hl
  rcases hl with rfl | ⟨r, hr, rfl⟩ | ⟨r, hr, rfl⟩ | rfl | ⟨r, hr, rfl⟩
  · have := TX.house_len (TX.sm_hours hs); omega
  · have := TX.room_len (TX.sm_room hs hr); omega
  · have := TX.fan_len (TX.sm_fan hs hr); omega
  · have := TX.open_len (TX.sm_op hs); omega
  · have := TX.hand_len (TX.sm_hand hs hr); omega
def pre2 (h : Hs) : List (List UInt8) := houseL h :: h.rooms.map roomL
def pre3 (h : Hs) : List (List UInt8) := pre2 h ++ h.fans.map fanL ++ [openL h]
theorem lines_pre (h : Hs) : linesH h = pre3 h ++ h.hands.map handL := by simp [linesH, pre3, pre2]
theorem pre_next {p : List (List UInt8)} {α : Type} {xs : List α} {f : α → List UInt8} {k : Nat} {x : α} (h : xs[k]? = some x) : (p ++ (xs.take (k + 1)).map f).map AV.str = (p ++ (xs.take k).map f).map AV.str ++ [.str (f x)] := by
  rw [take_next h]; simp
noncomputable def cZB : FuncId → Option (List AV → Heap → Option (AV × Heap))
  | 151 => some (pureFn sp151)
  | 152 => some (pureFn sp152)
  | 153 => some spJoin
  | 154 => some (atOnce spItoa)
  | _ => none
theorem cZB_sound (hT : TabK Tryz.prog) : Sound (dX cZB) := dX_sound (fun f g h => by
  unfold cZB at h
  split at h
  · cases h; exact F151
  · cases h; exact F152 hT
  · cases h; exact F153
  · cases h; exact F154 hT
  · cases h)
def sp110 : List AV → Option AV
  | [x] => match hsV x with
    | some h => if okT h = true then some (.str (textH h)) else none
    | none => none
  | _ => none
theorem p110 : ∀ args v, sp110 args = some v → v.flat = true := by
  intro args v h
  unfold sp110 at h
  split at h
  · split at h
    · split at h
      · cases h; rfl
      · cases h
    · cases h
  · cases h
attribute [local irreducible] textH linesH lineT ck ck1 pre2 pre3 roomL fanL openL handL houseL
set_option maxHeartbeats 8000000 in
theorem R110 : ∀ args v, sp110 args = some v → ClR (dX cZB) 110 args emptyHp (isRet v) := by
  intro args v h
  unfold sp110 at h
  split at h
  · rename_i x
    split at h
    · rename_i hs hh
      split at h
      · rename_i hok
        have h := Option.some.inj h
        subst h
        obtain ⟨ra, fa, oa, ha, rfl, v1, v2, v3, v4⟩ := hsV_is hh
        unfold okT at hok
        simp only [Bool.and_eq_true, decide_eq_true_eq] at hok
        obtain ⟨⟨hsm, nn⟩, n3⟩ := hok
        have htl := text_40 hsm nn n3
        have n1 : hs.rooms.length ≤ 600 := by omega
        have n2 : hs.fans.length ≤ 600 := by omega
        have n4 : hs.hands.length ≤ 600 := by omega
        have l1 := sl_len v1
        have l2 := sl_len v2
        have l4 := sl_len v4
        have o1 := sl_out v1
        have o2 := sl_out v2
        have o3 := sl_out v3
        have o4 := sl_out v4
        have k151 := fun h => K151 (X := dX cZB) rfl h
        simp only [rwV] at k151
        have e1 : lineT wHouse [hs.hours] = houseL hs := by unfold houseL lineT; rfl
        have e2 : lineT wOpen hs.op = openL hs := by unfold openL lineT; rfl
        have hsh : smallI hs.hours = true := smallP_I (TX.sm_hours hsm)
        have hso : hs.op.all smallI = true := List.all_eq_true.2 fun n hn => smallP_I (List.all_eq_true.1 (TX.sm_op hsm) n hn)
        have k152h := fun h => K152g (X := dX cZB) rfl wHouse [hs.hours] (by simp [hsh]) (by decide) (by simp) h
        have k152o := fun h => K152 (X := dX cZB) rfl wOpen oa hs.op v3 hso (by decide) (by omega) h
        rw [e1] at k152h
        rw [e2] at k152o
        simp only [List.map_cons, List.map_nil, wHouse, wOpen] at k152h k152o
        have hd2 := lines_4000 hsm n3
        have htx : textH hs = Lib.join (linesH hs ++ [endL (ck (linesH hs) % 107)]) [10] ++ [10] := by rw [join_text]; unfold textH allL; rfl
        have HTX := Lib.hid htx
        have HSM := Lib.hid hsm
        have H1 := Lib.hid v1
        have H2 := Lib.hid v2
        have H4 := Lib.hid v4
        have HD2 := Lib.hid hd2
        have hlc : (linesH hs).length = hs.rooms.length + hs.fans.length + hs.hands.length + 2 := by unfold linesH; simp; omega
        have HLC := Lib.hid hlc
        clear hsm v1 v2 v3 v4 e1 e2 hsh hso hd2 htx hlc hh
        refine ClR.walk (c := _) rfl Tryz.func110 rfl (by kernel_rfl) rfl isRet_fail ?_
        simp only [entryEnv, Nat.reduceAdd, emptyHp]
        repeat' (first | (apply WO1.rowB (e := 9) (sz := 1); exact Z2; exact Z2; exact Z1; exact rfl; simp only [pM, pN, List.length_cons, List.length_nil]) | refine go1 ?_ | (apply U6; exact Z1; exact Z1; (focus (simp only [List.nil_append, List.append_nil]; first | exact k151 _ | exact k152h _)); simp only [pM, pN, rR, rP]) | refine go2 (fun hh => ?_) (fun hh => ?_) | fail)
        clear k151 k152h
        refine W.loopV (hs.rooms.length) [1, 3, 22, 23] [1, 3] (fun k e lm hp => ∃ u, e.get 24 = some (.int .i64 ↑k) ∧ e.get 4 = some (u) ∧ BltN 0 hp u 1 (([houseL hs] ++ (hs.rooms.take k).map roomL).map AV.str)) ?_ ?_
        · skip
          refine ⟨_, ?_, ?_, .inr ⟨0, rfl, ?_, Nat.le_refl _, ?_, by simp⟩⟩
          all_goals first | exact Z2 | simp [go_sem, *]
        intro k e lm hp hk0 hce hcl hinv
        simp only [keepE, and_true] at hce
        obtain ⟨c1, c3, c22, c23⟩ := hce
        simp only [go_sem, *, Nat.reduceLT, Int.reduceEq, Int.reduceBEq, Int.reduceLE, Int.reduceLT, Nat.reduceAdd, Nat.reduceBEq, Nat.reduceEqDiff, reduceIte, Nat.reduceLeDiff, Nat.reduceMul, Nat.reduceSub, reduceCtorEq] at c1 c3 c22 c23
        simp only [keepL, and_true] at hcl
        obtain ⟨d1, d3⟩ := hcl
        simp only [go_sem, *, Nat.reduceLT, Int.reduceEq, Int.reduceBEq, Int.reduceLE, Int.reduceLT, Nat.reduceAdd, Nat.reduceBEq, Nat.reduceEqDiff, reduceIte, Nat.reduceLeDiff, Nat.reduceMul, Nat.reduceSub, reduceCtorEq] at d1 d3
        obtain ⟨u, h24, h4, hB⟩ := hinv
        by_cases hlt : k < hs.rooms.length
        · have hd0 : decide ((k : Int) < ((hs.rooms.length : Nat) : Int)) = true := by simpa using hlt
          have hv_0 := wrap_succ hlt (by unfold maxL; omega)
          have hbo := hB.blt.out
          obtain ⟨r, hr⟩ := get_some hlt
          have hix := fun H => rms_idx H1.out hr H
          have hrk := TX.sm_room HSM.out (List.mem_of_getElem? hr)
          have hrl := TX.room_len hrk
          unfold TX.Rm.ok at hrk
          simp only [Bool.and_eq_true] at hrk
          obtain ⟨⟨⟨⟨q1, q2⟩, q3⟩, q4⟩, q5⟩ := hrk
          have k152a := fun h => K152g (X := dX cZB) rfl wRoom [r.lo, r.hi] (by simp [smallP_I q1, smallP_I q2]) (by decide) (by simp) h
          have k152b := fun h => K152g (X := dX cZB) rfl wMake [r.mke] (by simp [smallP_I q3]) (by decide) (by simp) h
          have k152c := fun h => K152g (X := dX cZB) rfl wWait [r.wt] (by simp [smallP_I q4]) (by decide) (by simp) h
          have k152d := fun h => K152g (X := dX cZB) rfl wStart [r.stt] (by simp [smallP_I q5]) (by decide) (by simp) h
          have hrj := room_join r
          simp only [List.map_cons, List.map_nil] at k152a k152b k152c k152d
          have k153r := fun h => K153 (X := dX cZB) rfl (a := .vslice [.str (lineT wRoom [r.lo, r.hi]), .str (lineT wMake [r.mke]), .str (lineT wWait [r.wt]), .str (lineT wStart [r.stt])]) (xs := [lineT wRoom [r.lo, r.hi], lineT wMake [r.mke], lineT wWait [r.wt], lineT wStart [r.stt]]) (s := [32]) (h := h) rfl (by simp) (by unfold maxL; simp) (by rw [hrj]; unfold maxL; omega)
          rw [hrj] at k153r
          have hnx := pre_next (p := [houseL hs]) (f := roomL) hr
          have hll : (([houseL hs] ++ (hs.rooms.take k).map roomL).map AV.str).length + 1 ≤ most := by
            simp only [List.length_map, List.length_append, List.length_cons, List.length_nil, List.length_take]
            unfold most
            omega
          have HNX := Lib.hid hnx
          have HLT0 := Lib.hid hlt
          clear hr hnx hrj hlt hrl q1 q2 q3 q4 q5
          generalize ([houseL hs] ++ (hs.rooms.take k).map roomL).map AV.str = ls at *
          generalize roomL r = rl at *
          generalize lineT wRoom [r.lo, r.hi] = t1 at *
          generalize lineT wMake [r.mke] = t2 at *
          generalize lineT wWait [r.wt] = t3 at *
          generalize lineT wStart [r.stt] = t4 at *
          generalize wRoom = y1 at *
          generalize wMake = y2 at *
          generalize wWait = y3 at *
          generalize wStart = y4 at *
          repeat' (first | (apply W.drawQ (id := 6) (l1 := [0, 1, 2, 3, 4, 5, 6, 7, 8, 9, 10, 11, 12, 13, 14, 15, 16, 17, 18, 19, 20, 21, 22, 23, 24, 25, 26, 27, 28, 29, 30, 31]) (l2 := [32, 33]); kernel_rfl; kernel_rfl; kernel_rfl; exact Z4) | (apply WO1.appendN (t := 167) (u := 167) (e := 9) (e' := 9) (sz := 1) (tl := []) (b := 0) (h0 := ⟨0, .nil⟩) (hb := hB) (hx := ⟨Nat.zero_le _, fun id h => absurd h (Nat.not_lt_zero id)⟩); exact Z1; exact rfl; exact Z2; exact Z2; exact Z2; (focus (exact ty_row167)); exact Z1; (focus (intro v hv; simp at hv; first | (subst hv; rfl) | (rcases hv with rfl | rfl <;> rfl))); (focus (simp only [List.length_map, List.length_cons, List.length_nil]; exact hll)); (focus (simp)); (intro v' h' hB' ho' hX'; have hcc' := hB'.blt.cells; have htt' := hB'.blt.tup; simp only [AV.cells] at hcc'; simp only [isTuple] at htt'; simp only [pM, pN])) | refine go1 ?_ | (apply U6; exact Z1; exact Z1; (focus (simp only [List.nil_append, List.append_nil]; first | exact k152a _ | exact k152b _ | exact k152c _ | exact k152d _ | exact k153r _)); simp only [pM, pN, rR, rP]) | refine go2 (fun hh => ?_) (fun hh => ?_) | fail)
          all_goals refine contV_mk (by first | assumption | exact HLT0.out) (by simp only [keepE, and_true, and_self, go_sem, *, Nat.reduceLT, Int.reduceEq, Int.reduceBEq, Int.reduceLE, Int.reduceLT, Nat.reduceAdd, Nat.reduceBEq, Nat.reduceEqDiff, reduceIte, Nat.reduceLeDiff, Nat.reduceMul, Nat.reduceSub, reduceCtorEq]) (by simp only [keepL, and_true, and_self, go_sem, *, Nat.reduceLT, Int.reduceEq, Int.reduceBEq, Int.reduceLE, Int.reduceLT, Nat.reduceAdd, Nat.reduceBEq, Nat.reduceEqDiff, reduceIte, Nat.reduceLeDiff, Nat.reduceMul, Nat.reduceSub, reduceCtorEq]) ?_
          all_goals refine ⟨v', ?_, ?_, ?_⟩
          all_goals first | exact Z2 | skip
          rw [HNX.out]; exact hB'
        · have hd0 : decide ((k : Int) < ((hs.rooms.length : Nat) : Int)) = false := by simpa using hlt
          obtain rfl : k = hs.rooms.length := by omega
          have e2 : ([houseL hs] ++ (hs.rooms.take hs.rooms.length).map roomL).map AV.str = (pre2 hs ++ (hs.fans.take 0).map fanL).map AV.str := by rw [List.take_length]; unfold pre2; simp
          rw [e2] at hB
          have hbo := hB.blt.out
          clear e2
          repeat' (first | refine goS ?_ | refine go2 (fun hh => ?_) (fun hh => ?_) | fail)
          refine W.loopV (hs.fans.length) [1, 63, 64] [1] (fun j e1 lm1 hp1 => ∃ u2, e1.get 65 = some (.int .i64 ↑j) ∧ e1.get 4 = some (u2) ∧ BltN 0 hp1 u2 1 ((pre2 hs ++ (hs.fans.take j).map fanL).map AV.str)) ?_ ?_
          · skip
            refine ⟨u, ?_, ?_, hB⟩
            all_goals first | exact Z2 | simp [go_sem, *]
          intro j e1 lm1 hp1 hk1 hce hcl hinv
          simp only [keepE, and_true] at hce
          obtain ⟨c1, c63, c64⟩ := hce
          simp only [go_sem, *, Nat.reduceLT, Int.reduceEq, Int.reduceBEq, Int.reduceLE, Int.reduceLT, Nat.reduceAdd, Nat.reduceBEq, Nat.reduceEqDiff, reduceIte, Nat.reduceLeDiff, Nat.reduceMul, Nat.reduceSub, reduceCtorEq] at c1 c63 c64
          simp only [keepL, and_true] at hcl
          have d1 := hcl
          clear hcl
          simp only [go_sem, *, Nat.reduceLT, Int.reduceEq, Int.reduceBEq, Int.reduceLE, Int.reduceLT, Nat.reduceAdd, Nat.reduceBEq, Nat.reduceEqDiff, reduceIte, Nat.reduceLeDiff, Nat.reduceMul, Nat.reduceSub, reduceCtorEq] at d1
          obtain ⟨u2, h65, h4, hB2⟩ := hinv
          by_cases hjt : j < hs.fans.length
          · have hd1 : decide ((j : Int) < ((hs.fans.length : Nat) : Int)) = true := by simpa using hjt
            have hv_1 := wrap_succ hjt (by unfold maxL; omega)
            clear hB hbo
            have hB := hB2
            clear hB2
            have hbo := hB.blt.out
            obtain ⟨r, hr⟩ := get_some hjt
            have hix := fun H => fas_idx H2.out hr H
            have hrk := TX.sm_fan HSM.out (List.mem_of_getElem? hr)
            unfold TX.Fa.ok at hrk
            simp only [Bool.and_eq_true] at hrk
            obtain ⟨q1, q2⟩ := hrk
            have k152f := fun h => K152g (X := dX cZB) rfl wFan [r.room, r.draws] (by simp [smallP_I q1, smallP_I q2]) (by decide) (by simp) h
            have e1 : lineT wFan [r.room, r.draws] = fanL r := by unfold fanL lineT; rfl
            rw [e1] at k152f
            simp only [List.map_cons, List.map_nil, wFan] at k152f
            have hnx := pre_next (p := pre2 hs) (f := fanL) hr
            have hll : ((pre2 hs ++ (hs.fans.take j).map fanL).map AV.str).length + 1 ≤ most := by
              simp only [List.length_map, List.length_append, List.length_cons, List.length_nil, List.length_take, pre2]
              unfold most
              omega
            have HNX := Lib.hid hnx
            have HLT1 := Lib.hid hjt
            clear hr hnx hjt q1 q2 e1
            generalize (pre2 hs ++ (hs.fans.take j).map fanL).map AV.str = ls at *
            generalize fanL r = rl at *
            repeat' (first | (apply WO1.appendN (t := 167) (u := 167) (e := 9) (e' := 9) (sz := 1) (tl := []) (b := 0) (h0 := ⟨0, .nil⟩) (hb := hB) (hx := ⟨Nat.zero_le _, fun id h => absurd h (Nat.not_lt_zero id)⟩); exact Z1; exact rfl; exact Z2; exact Z2; exact Z2; (focus (exact ty_row167)); exact Z1; (focus (intro v hv; simp at hv; first | (subst hv; rfl) | (rcases hv with rfl | rfl <;> rfl))); (focus (simp only [List.length_map, List.length_cons, List.length_nil]; exact hll)); (focus (simp)); (intro v' h' hB' ho' hX'; have hcc' := hB'.blt.cells; have htt' := hB'.blt.tup; simp only [AV.cells] at hcc'; simp only [isTuple] at htt'; simp only [pM, pN])) | refine go1 ?_ | (apply U6; exact Z1; exact Z1; (focus (simp only [List.nil_append, List.append_nil]; first | exact k152f _)); simp only [pM, pN, rR, rP]) | refine go2 (fun hh => ?_) (fun hh => ?_) | fail)
            all_goals refine contV_mk (by first | assumption | exact HLT1.out) (by simp only [keepE, and_true, and_self, go_sem, *, Nat.reduceLT, Int.reduceEq, Int.reduceBEq, Int.reduceLE, Int.reduceLT, Nat.reduceAdd, Nat.reduceBEq, Nat.reduceEqDiff, reduceIte, Nat.reduceLeDiff, Nat.reduceMul, Nat.reduceSub, reduceCtorEq]) (by simp only [keepL, and_true, and_self, go_sem, *, Nat.reduceLT, Int.reduceEq, Int.reduceBEq, Int.reduceLE, Int.reduceLT, Nat.reduceAdd, Nat.reduceBEq, Nat.reduceEqDiff, reduceIte, Nat.reduceLeDiff, Nat.reduceMul, Nat.reduceSub, reduceCtorEq]) ?_
            all_goals refine ⟨v', ?_, ?_, ?_⟩
            all_goals first | exact Z2 | skip
            rw [HNX.out]; exact hB'
          · have hd1 : decide ((j : Int) < ((hs.fans.length : Nat) : Int)) = false := by simpa using hjt
            obtain rfl : j = hs.fans.length := by omega
            clear hB hbo
            have hB := hB2
            clear hB2
            have hbo := hB.blt.out
            have hll : ((pre2 hs ++ (hs.fans.take hs.fans.length).map fanL).map AV.str).length + 1 ≤ most := by
              simp only [List.length_map, List.length_append, List.length_cons, List.length_nil, List.length_take, pre2]
              unfold most
              omega
            have e2 : (pre2 hs ++ (hs.fans.take hs.fans.length).map fanL).map AV.str ++ [.str (openL hs)] = (pre3 hs ++ (hs.hands.take 0).map handL).map AV.str := by rw [List.take_length]; unfold pre3; simp
            have E2 := Lib.hid e2
            clear e2
            generalize (pre2 hs ++ (hs.fans.take hs.fans.length).map fanL).map AV.str = ls at *
            repeat' (first | (apply WO1.appendN (t := 167) (u := 167) (e := 9) (e' := 9) (sz := 1) (tl := []) (b := 0) (h0 := ⟨0, .nil⟩) (hb := hB) (hx := ⟨Nat.zero_le _, fun id h => absurd h (Nat.not_lt_zero id)⟩); exact Z1; exact rfl; exact Z2; exact Z2; exact Z2; (focus (exact ty_row167)); exact Z1; (focus (intro v hv; simp at hv; first | (subst hv; rfl) | (rcases hv with rfl | rfl <;> rfl))); (focus (simp only [List.length_map, List.length_cons, List.length_nil]; exact hll)); (focus (simp)); (intro v' h' hB' ho' hX'; have hcc' := hB'.blt.cells; have htt' := hB'.blt.tup; simp only [AV.cells] at hcc'; simp only [isTuple] at htt'; simp only [pM, pN])) | refine go1 ?_ | (apply U6; exact Z1; exact Z1; (focus (simp only [List.nil_append, List.append_nil]; first | exact k152o _)); simp only [pM, pN, rR, rP]) | refine go2 (fun hh => ?_) (fun hh => ?_) | fail)
            clear hB hbo hll
            rw [E2.out] at hB'
            refine W.loopV (hs.hands.length) [86, 87] [] (fun i e2 lm2 hp2 => ∃ u3, e2.get 88 = some (.int .i64 ↑i) ∧ e2.get 4 = some (u3) ∧ BltN 0 hp2 u3 1 ((pre3 hs ++ (hs.hands.take i).map handL).map AV.str)) ?_ ?_
            · skip
              refine ⟨v', ?_, ?_, hB'⟩
              all_goals first | exact Z2 | simp [go_sem, *]
            intro i e2 lm2 hp2 hk2 hce hcl hinv
            simp only [keepE, and_true] at hce
            obtain ⟨c86, c87⟩ := hce
            simp only [go_sem, *, Nat.reduceLT, Int.reduceEq, Int.reduceBEq, Int.reduceLE, Int.reduceLT, Nat.reduceAdd, Nat.reduceBEq, Nat.reduceEqDiff, reduceIte, Nat.reduceLeDiff, Nat.reduceMul, Nat.reduceSub, reduceCtorEq] at c86 c87
            clear hcl
            obtain ⟨u3, h88, h4, hB3⟩ := hinv
            by_cases hit : i < hs.hands.length
            · have hd2 : decide ((i : Int) < ((hs.hands.length : Nat) : Int)) = true := by simpa using hit
              have hv_2 := wrap_succ hit (by unfold maxL; omega)
              clear hB' ho' hX' hcc' htt'
              have hB := hB3
              clear hB3
              have hbo := hB.blt.out
              obtain ⟨r, hr⟩ := get_some hit
              have hix := fun H => has_idx H4.out hr H
              have hrk := TX.sm_hand HSM.out (List.mem_of_getElem? hr)
              unfold TX.Ha.ok at hrk
              simp only [Bool.and_eq_true] at hrk
              obtain ⟨q1, q2⟩ := hrk
              have k152f := fun h => K152g (X := dX cZB) rfl wHand [r.limit, r.most] (by simp [smallP_I q1, smallP_I q2]) (by decide) (by simp) h
              have e1 : lineT wHand [r.limit, r.most] = handL r := by unfold handL lineT; rfl
              rw [e1] at k152f
              simp only [List.map_cons, List.map_nil, wHand] at k152f
              have hnx := pre_next (p := pre3 hs) (f := handL) hr
              have hll : ((pre3 hs ++ (hs.hands.take i).map handL).map AV.str).length + 1 ≤ most := by
                simp only [List.length_map, List.length_append, List.length_cons, List.length_nil, List.length_take, pre2, pre3]
                unfold most
                omega
              have HNX := Lib.hid hnx
              have HLT2 := Lib.hid hit
              clear hr hnx hit q1 q2 e1
              generalize (pre3 hs ++ (hs.hands.take i).map handL).map AV.str = ls at *
              generalize handL r = rl at *
              repeat' (first | (apply WO1.appendN (t := 167) (u := 167) (e := 9) (e' := 9) (sz := 1) (tl := []) (b := 0) (h0 := ⟨0, .nil⟩) (hb := hB) (hx := ⟨Nat.zero_le _, fun id h => absurd h (Nat.not_lt_zero id)⟩); exact Z1; exact rfl; exact Z2; exact Z2; exact Z2; (focus (exact ty_row167)); exact Z1; (focus (intro v hv; simp at hv; first | (subst hv; rfl) | (rcases hv with rfl | rfl <;> rfl))); (focus (simp only [List.length_map, List.length_cons, List.length_nil]; exact hll)); (focus (simp)); (intro v' h' hB' ho' hX'; have hcc' := hB'.blt.cells; have htt' := hB'.blt.tup; simp only [AV.cells] at hcc'; simp only [isTuple] at htt'; simp only [pM, pN])) | refine go1 ?_ | (apply U6; exact Z1; exact Z1; (focus (simp only [List.nil_append, List.append_nil]; first | exact k152f _)); simp only [pM, pN, rR, rP]) | refine go2 (fun hh => ?_) (fun hh => ?_) | fail)
              all_goals refine contV_mk (by first | assumption | exact HLT2.out) (by simp only [keepE, and_true, and_self, go_sem, *, Nat.reduceLT, Int.reduceEq, Int.reduceBEq, Int.reduceLE, Int.reduceLT, Nat.reduceAdd, Nat.reduceBEq, Nat.reduceEqDiff, reduceIte, Nat.reduceLeDiff, Nat.reduceMul, Nat.reduceSub, reduceCtorEq]) (by simp only [keepL, and_true, and_self, go_sem, *, Nat.reduceLT, Int.reduceEq, Int.reduceBEq, Int.reduceLE, Int.reduceLT, Nat.reduceAdd, Nat.reduceBEq, Nat.reduceEqDiff, reduceIte, Nat.reduceLeDiff, Nat.reduceMul, Nat.reduceSub, reduceCtorEq]) ?_
              all_goals refine ⟨v', ?_, ?_, ?_⟩
              all_goals first | exact Z2 | skip
              rw [HNX.out]; exact hB'
            · have hd2 : decide ((i : Int) < ((hs.hands.length : Nat) : Int)) = false := by simpa using hit
              obtain rfl : i = hs.hands.length := by omega
              clear hB' ho' hX' hcc' htt'
              have hB := hB3
              clear hB3
              rw [List.take_length, ← lines_pre] at hB
              have hbo := hB.blt.out
              have hlu := hB.blt.len
              rw [List.length_map] at hlu
              generalize linesH hs = L at *
              have hLn : L.length ≤ 2000 := by have := HLC.out; omega
              repeat' (first | refine goS ?_ | refine go2 (fun hh => ?_) (fun hh => ?_) | fail)
              refine W.loopH (L.length) [4, 102, 103] [] (fun m e3 lm3 => e3.get 104 = some (.int .i64 ↑m) ∧ e3.get 11 = some (.int .i64 ↑(ck (L.take m)))) ?_ ?_
              · refine ⟨?_, ?_⟩ <;> first | exact Z2 | rfl | assumption | (simp [ck,go_sem, *, Nat.reduceLT, Int.reduceEq, Int.reduceBEq, Int.reduceLE, Int.reduceLT, Nat.reduceAdd, Nat.reduceBEq, Nat.reduceEqDiff, reduceIte, Nat.reduceLeDiff, Nat.reduceMul, Nat.reduceSub, reduceCtorEq]) | (simp [go_sem, *]; done)
              intro m e3 lm3 hk3 hce hcl hinv
              simp only [keepE, and_true] at hce
              obtain ⟨c4, c102, c103⟩ := hce
              simp only [go_sem, *, Nat.reduceLT, Int.reduceEq, Int.reduceBEq, Int.reduceLE, Int.reduceLT, Nat.reduceAdd, Nat.reduceBEq, Nat.reduceEqDiff, reduceIte, Nat.reduceLeDiff, Nat.reduceMul, Nat.reduceSub, reduceCtorEq] at c4 c102 c103
              clear hcl
              obtain ⟨h104, h11⟩ := hinv
              by_cases hmt : m < L.length
              · have hd3 : decide ((m : Int) < ((L.length : Nat) : Int)) = true := by simpa using hmt
                have hv_3 := wrap_succ hmt (by unfold maxL; omega)
                obtain ⟨l, hl'⟩ := get_some hmt
                obtain ⟨id, hia, hgi, hgl⟩ := row_str hB hl'
                have hll := HD2.out l (List.mem_of_getElem? hl')
                have hck := ck_next hl'
                have hb1 := ck_take_le HD2.out (by omega) m
                have HCK := Lib.hid hck
                have HLT3 := Lib.hid hmt
                have HB0 := Lib.hid hB
                clear hl' hck hmt hB
                generalize hcq : ck (L.take (m + 1)) = cq at *
                have HCQ := Lib.hid hcq
                clear hcq
                generalize ck (L.take m) = c0 at *
                repeat' (first | refine goS ?_ | refine go2 (fun hh => ?_) (fun hh => ?_) | fail)
                clear hia hgi hgl
                refine W.loopH (l.length) [4, 13, 102, 103, 104, 109] [] (fun n e4 lm4 => e4.get 110 = some (.int .i64 ↑n) ∧ e4.get 11 = some (.int .i64 ↑(c0 + ck1 0 (l.take n)))) ?_ ?_
                · refine ⟨?_, ?_⟩ <;> first | exact Z2 | rfl | assumption | (simp [ck1,go_sem, *, Nat.reduceLT, Int.reduceEq, Int.reduceBEq, Int.reduceLE, Int.reduceLT, Nat.reduceAdd, Nat.reduceBEq, Nat.reduceEqDiff, reduceIte, Nat.reduceLeDiff, Nat.reduceMul, Nat.reduceSub, reduceCtorEq]) | (simp [go_sem, *]; done)
                intro n e4 lm4 hk4 hce hcl hinv
                simp only [keepE, and_true] at hce
                obtain ⟨c4, c13, c102, c103, c104, c109⟩ := hce
                simp only [go_sem, *, Nat.reduceLT, Int.reduceEq, Int.reduceBEq, Int.reduceLE, Int.reduceLT, Nat.reduceAdd, Nat.reduceBEq, Nat.reduceEqDiff, reduceIte, Nat.reduceLeDiff, Nat.reduceMul, Nat.reduceSub, reduceCtorEq] at c4 c13 c102 c103 c104 c109
                clear hcl
                obtain ⟨h110, h11⟩ := hinv
                by_cases hnt : n < l.length
                · have hd4 : decide ((n : Int) < ((l.length : Nat) : Int)) = true := by simpa using hnt
                  have hv_4 := wrap_succ hnt (by unfold maxL; omega)
                  obtain ⟨b, hb'⟩ := get_some hnt
                  have hij := idx_j hnt
                  have hbt := b.toNat_lt
                  have hn1 := ck1_next hb'
                  have hb2 := ck1_take_le hll n
                  have hb3 := ck1_take_le hll (n + 1)
                  have hm1 : b.toNat * (n + 1) ≤ 255 * 4000 := Nat.mul_le_mul (by omega) (by omega)
                  have w1 : IntKind.i64.wrap ((b.toNat : Nat) : Int) = ((b.toNat : Nat) : Int) := wrap_small (by omega) (by omega)
                  have w3 : IntKind.i64.wrap (((b.toNat : Nat) : Int) * ((n + 1 : Nat) : Int)) = ((b.toNat * (n + 1) : Nat) : Int) := by
                    rw [← Int.natCast_mul, wrap_small (by omega) (by omega)]
                  have w6 : IntKind.i64.wrap (((c0 + ck1 0 (l.take n) : Nat) : Int) + ((b.toNat * (n + 1) : Nat) : Int)) = ((c0 + ck1 0 (l.take (n + 1)) : Nat) : Int) := by
                    rw [hn1] at hb3 ⊢
                    rw [← Int.natCast_add, wrap_small (by omega) (by omega), Nat.add_assoc]
                  have HLT4 := Lib.hid hnt
                  clear hbt hn1 hb2 hb3 hm1 hnt
                  generalize hy1 : ((c0 + ck1 0 (l.take (n + 1)) : Nat) : Int) = y1 at *
                  have HY1 := Lib.hid hy1
                  clear hy1
                  generalize ((c0 + ck1 0 (l.take n) : Nat) : Int) = y0 at *
                  generalize ((b.toNat * (n + 1) : Nat) : Int) = y3 at *
                  repeat' (first | refine goS ?_ | refine go2 (fun hh => ?_) (fun hh => ?_) | fail)
                  all_goals refine contH_mk (by first | assumption | exact HLT4.out) (by simp only [keepE, and_true, and_self, go_sem, *, Nat.reduceLT, Int.reduceEq, Int.reduceBEq, Int.reduceLE, Int.reduceLT, Nat.reduceAdd, Nat.reduceBEq, Nat.reduceEqDiff, reduceIte, Nat.reduceLeDiff, Nat.reduceMul, Nat.reduceSub, reduceCtorEq]) (by simp only [keepL, and_true, and_self, go_sem, *, Nat.reduceLT, Int.reduceEq, Int.reduceBEq, Int.reduceLE, Int.reduceLT, Nat.reduceAdd, Nat.reduceBEq, Nat.reduceEqDiff, reduceIte, Nat.reduceLeDiff, Nat.reduceMul, Nat.reduceSub, reduceCtorEq]) ?_
                  all_goals refine ⟨?_, ?_⟩
                  all_goals first | exact Z2 | skip
                  rw [HY1.out]
                  simp only [go_sem, *, Nat.reduceLT, Int.reduceEq, Int.reduceBEq, Int.reduceLE, Int.reduceLT, Nat.reduceAdd, Nat.reduceBEq, Nat.reduceEqDiff, reduceIte, Nat.reduceLeDiff, Nat.reduceMul, Nat.reduceSub, reduceCtorEq]
                · have hd4 : decide ((n : Int) < ((l.length : Nat) : Int)) = false := by simpa using hnt
                  obtain rfl : n = l.length := by omega
                  rw [List.take_length] at h11
                  have hc1 : c0 + ck1 0 l = cq := HCK.out.symm
                  rw [hc1] at h11
                  repeat' (first | refine goS ?_ | refine go2 (fun hh => ?_) (fun hh => ?_) | fail)
                  all_goals refine contH_mk HLT3.out (by simp only [keepE, and_true, and_self, go_sem, *, Nat.reduceLT, Int.reduceEq, Int.reduceBEq, Int.reduceLE, Int.reduceLT, Nat.reduceAdd, Nat.reduceBEq, Nat.reduceEqDiff, reduceIte, Nat.reduceLeDiff, Nat.reduceMul, Nat.reduceSub, reduceCtorEq]) (by simp only [keepL, and_true, and_self, go_sem, *, Nat.reduceLT, Int.reduceEq, Int.reduceBEq, Int.reduceLE, Int.reduceLT, Nat.reduceAdd, Nat.reduceBEq, Nat.reduceEqDiff, reduceIte, Nat.reduceLeDiff, Nat.reduceMul, Nat.reduceSub, reduceCtorEq]) ?_
                  all_goals refine ⟨?_, ?_⟩
                  · simp only [go_sem, *, Nat.reduceLT, Int.reduceEq, Int.reduceBEq, Int.reduceLE, Int.reduceLT, Nat.reduceAdd, Nat.reduceBEq, Nat.reduceEqDiff, reduceIte, Nat.reduceLeDiff, Nat.reduceMul, Nat.reduceSub, reduceCtorEq]
                  · rw [HCQ.out]
                    simp only [go_sem, *, Nat.reduceLT, Int.reduceEq, Int.reduceBEq, Int.reduceLE, Int.reduceLT, Nat.reduceAdd, Nat.reduceBEq, Nat.reduceEqDiff, reduceIte, Nat.reduceLeDiff, Nat.reduceMul, Nat.reduceSub, reduceCtorEq]
              · have hd3 : decide ((m : Int) < ((L.length : Nat) : Int)) = false := by simpa using hmt
                obtain rfl : m = L.length := by omega
                rw [List.take_length] at h11
                have hcb := ck_take_le HD2.out (by omega) L.length
                rw [List.take_length] at hcb
                have hll : L.length + 1 ≤ most := by
                  unfold most
                  omega
                have hjl : (Lib.join (L ++ [endL (ck L % 107)]) [10]).length + 1 ≤ 40000 := by
                  have h1 := congrArg List.length HTX.out
                  rw [List.length_append, List.length_cons, List.length_nil] at h1
                  omega
                have b107 : ((107 : Int) == 0) = false := rfl
                have b100 : ((100 : Int) == 0) = false := rfl
                have b10 : ((10 : Int) == 0) = false := rfl
                generalize hcc : ck L % 107 = cc at *
                have hc7 : cc < 107 := by rw [← hcc]; exact Nat.mod_lt _ (by decide)
                have m1 : ((ck L : Nat) : Int).tmod 107 = (cc : Int) := by rw [Int.tmod_eq_emod_of_nonneg (by omega)]; omega
                have m2 : ((cc : Nat) : Int).tdiv 100 = ((cc / 100 : Nat) : Int) := by rw [Int.tdiv_eq_ediv_of_nonneg (by omega)]; omega
                have m3 : ((cc : Nat) : Int).tdiv 10 = ((cc / 10 : Nat) : Int) := by rw [Int.tdiv_eq_ediv_of_nonneg (by omega)]; omega
                have m4 : ((cc / 10 : Nat) : Int).tmod 10 = ((cc / 10 % 10 : Nat) : Int) := by rw [Int.tmod_eq_emod_of_nonneg (by omega)]; omega
                have m5 : ((cc : Nat) : Int).tmod 10 = ((cc % 10 : Nat) : Int) := by rw [Int.tmod_eq_emod_of_nonneg (by omega)]; omega
                have m6 : IntKind.i64.wrap ((cc / 100 : Nat) : Int) = ((cc / 100 : Nat) : Int) := wrap_small (by omega) (by omega)
                have m7 : IntKind.i64.wrap ((cc / 10 : Nat) : Int) = ((cc / 10 : Nat) : Int) := wrap_small (by omega) (by omega)
                have hsI : ∀ x : Nat, x < 107 → smallI (x : Int) = true := fun x hx => by unfold smallI; simp; omega
                have k154a := fun h => K154 (X := dX cZB) rfl ((cc / 100 : Nat) : Int) (hsI _ (by omega)) h
                have k154b := fun h => K154 (X := dX cZB) rfl ((cc / 10 % 10 : Nat) : Int) (hsI _ (by omega)) h
                have k154c := fun h => K154 (X := dX cZB) rfl ((cc % 10 : Nat) : Int) (hsI _ (by omega)) h
                have i1 := itoa_len ((cc / 100 : Nat) : Int)
                have i2 := itoa_len ((cc / 10 % 10 : Nat) : Int)
                have i3 := itoa_len ((cc % 10 : Nat) : Int)
                have hend : endL cc = [101, 110, 100, 32] ++ itoaF ((cc / 100 : Nat) : Int) ++ itoaF ((cc / 10 % 10 : Nat) : Int) ++ itoaF ((cc % 10 : Nat) : Int) := rfl
                have HEND := Lib.hid hend
                have HJL := Lib.hid hjl
                have HLN := Lib.hid hLn
                clear hsI hend hjl hmt hcb hcc hc7 hLn hlu
                generalize itoaF ((cc / 100 : Nat) : Int) = t1' at *
                generalize itoaF ((cc / 10 % 10 : Nat) : Int) = t2' at *
                generalize itoaF ((cc % 10 : Nat) : Int) = t3' at *
                generalize ((cc / 100 : Nat) : Int) = c100 at *
                generalize ((cc / 10 % 10 : Nat) : Int) = c10 at *
                generalize ((cc / 10 : Nat) : Int) = c11 at *
                generalize ((cc % 10 : Nat) : Int) = c12 at *
                generalize ((cc : Nat) : Int) = cI at *
                generalize ((ck L : Nat) : Int) = cL at *
                repeat' (first | (apply WO1.sadd; exact Z1; exact Z1; exact rfl; (focus (first | omega | (simp only [List.length_append, List.length_cons, List.length_nil]; omega))); simp only [pM, pN]) | (apply WO1.appendN (t := 167) (u := 167) (e := 9) (e' := 9) (sz := 1) (tl := []) (b := 0) (h0 := ⟨0, .nil⟩) (hb := hB) (hx := ⟨Nat.zero_le _, fun id h => absurd h (Nat.not_lt_zero id)⟩); exact Z1; exact rfl; exact Z2; exact Z2; exact Z2; (focus (exact ty_row167)); exact Z1; (focus (intro v hv; simp at hv; first | (subst hv; rfl) | (rcases hv with rfl | rfl <;> rfl))); (focus (simp only [List.length_map, List.length_cons, List.length_nil]; exact hll)); (focus (simp)); (intro v' h' hB' ho' hX'; have hcc' := hB'.blt.cells; have htt' := hB'.blt.tup; simp only [AV.cells] at hcc'; simp only [isTuple] at htt'; simp only [pM, pN])) | refine go1 ?_ | (apply U6; exact Z1; exact Z1; (focus (simp only [List.nil_append, List.append_nil]; first | exact k154a _ | exact k154b _ | exact k154c _)); simp only [pM, pN, rR, rP]) | refine go2 (fun hh => ?_) (fun hh => ?_) | fail)
                have hjn := K153 (X := dX cZB) rfl (a := v') (xs := L ++ [endL cc]) (s := [10]) (h := h') (by rw [hB'.blt.elems, HEND.out]; simp) (by simp) (by rw [List.length_append]; have := HLN.out; simp [maxL]; omega) (by have := HJL.out; unfold maxL; omega)
                have hjl : (Lib.join (L ++ [endL cc]) [10]).length + 1 ≤ 4294967296 := by have := HJL.out; omega
                rw [HTX.out]
                generalize Lib.join (L ++ [endL cc]) [10] = jn at *
                repeat' (first | (apply WO1.sadd; exact Z1; exact Z1; exact rfl; (focus (first | omega | (simp only [List.length_append, List.length_cons, List.length_nil]; omega))); simp only [pM, pN]) | refine go1 ?_ | (apply U6; exact Z1; exact Z1; (focus (simp only [List.nil_append, List.append_nil]; first | exact hjn)); simp only [pM, pN, rR, rP]) | refine go2 (fun hh => ?_) (fun hh => ?_) | fail)
                all_goals simp only [resV_def (X := dX cZB) Tryz.func110, Tryz.results110, resultsV, resultV, go_sem, *, Nat.reduceLT, Int.reduceEq, Int.reduceBEq, Int.reduceLE, Int.reduceLT, Nat.reduceAdd, Nat.reduceBEq, Nat.reduceEqDiff, reduceIte, Nat.reduceLeDiff, Nat.reduceMul, Nat.reduceSub, reduceCtorEq, frzRes, dFrz, frzCells, isRet_ret, tupleOf]
      · cases h
    · cases h
  · cases h
theorem F110 (hT : TabK Tryz.prog) : IntrFn Tryz.prog 110 (flatFnD sp110) := flatD_fn (X := dX cZB) (cZB_sound hT) p110 R110
end Go.AM
set_option linter.unusedSectionVars false
set_option linter.unusedVariables false
set_option linter.unusedSimpArgs false
set_option maxRecDepth 100000
namespace Go.AM
open Go Go.Proofs
variable [Keep]
attribute [local irreducible] W WO WO1 WD WQ WT thenQ blockQ endR isRet retK Cl ClR
def cutR (c : UInt8) : List UInt8 → List UInt8 × List UInt8 × Bool
  | [] => ([], [], false)
  | a :: r => if a = c then ([], r, true) else (a :: (cutR c r).1, (cutR c r).2.1, (cutR c r).2.2)
theorem cut_head (c : UInt8) : ∀ s : List UInt8, (cutR c s).1 = (spL c s).getD 0 [] := by
  intro s
  induction s with
  | nil => rfl
  | cons a r ih =>
    simp only [cutR, spL]
    split
    · rfl
    · rw [ih]
      cases q : spL c r with
      | nil => exact absurd q (spL_ne c r)
      | cons p l => rfl
theorem cut_idx (c : UInt8) : ∀ s : List UInt8, (Lib.indexByte s c = -1 ∧ cutR c s = (s, [], false)) ∨ ∃ i : Nat, Lib.indexByte s c = i ∧ i < s.length ∧ cutR c s = (s.take i, s.drop (i + 1), true) := by
  intro s
  induction s with
  | nil => exact .inl ⟨rfl, rfl⟩
  | cons a r ih =>
    by_cases e : a = c
    · subst e
      exact .inr ⟨0, by simp [Lib.indexByte], by simp, by simp [cutR]⟩
    · have hi : Lib.indexByte (a :: r) c = if Lib.indexByte r c == -1 then -1 else Lib.indexByte r c + 1 := by simp [Lib.indexByte, e]
      rcases ih with ⟨h1, h2⟩ | ⟨i, h1, h2, h3⟩
      · refine .inl ⟨by rw [hi, h1]; rfl, ?_⟩
        simp only [cutR, if_neg e, h2]
      · refine .inr ⟨i + 1, ?_, by simp; omega, ?_⟩
        · rw [hi, h1]
          have : ((i : Int) == -1) = false := by rw [beq_eq_false_iff_ne]; omega
          rw [this]
          simp
        · simp only [cutR, if_neg e, h3]
          simp
def cutT (c : UInt8) (s : List UInt8) : AV := .tuple [.str (cutR c s).1, .str (cutR c s).2.1, .bool (cutR c s).2.2]
def sp159 : List AV → Option AV
  | [.str s, .str [c]] => if s.length ≤ 60000 then some (cutT c s) else none
  | _ => none
theorem p159 : ∀ args v, sp159 args = some v → v.pur = true := by
  intro args v h
  unfold sp159 at h
  split at h
  · split at h
    · cases h; rfl
    · cases h
  · cases h
noncomputable def c188 : FuncId → Option (List AV → Heap → Option (AV × Heap))
  | 200 => some (atOnce spIndex)
  | _ => none
theorem c188_sound : Sound (dX c188) := dX_sound (fun f g h => by
  unfold c188 at h
  split at h
  · cases h; exact F200
  · cases h)
set_option maxHeartbeats 1000000 in
theorem F188 : IntrFn Tryz.prog 188 (pureFn sp159) := by
  refine pure_fn (X := dX c188) c188_sound p159 ?_
  intro args v h
  unfold sp159 at h
  split at h
  · rename_i s c
    split at h
    · rename_i hs
      have h := Option.some.inj h
      subst h
      have k200 := fun h => K200 (X := dX c188) rfl s c h
      unfold cutT
      rcases cut_idx c s with ⟨h1, h2⟩ | ⟨i, h1, h2, h3⟩
      · rw [h2]
        rw [h1] at k200
        have hd : decide ((-1 : Int) ≥ 0) = false := rfl
        clear h1 h2
        refine ClR.walk (c := _) rfl Tryz.func188 rfl (by kernel_rfl) rfl isRet_fail ?_
        simp only [entryEnv, Nat.reduceAdd]
        repeat' (first | refine goS ?_ | (apply U6; exact Z1; exact Z1; (focus (simp only [List.nil_append, List.append_nil]; first | exact k200 _)); simp only [pM, pN, rR, rP]) | refine go2 (fun hh => ?_) (fun hh => ?_) | fail)
        all_goals simp only [resV_def (X := dX c188) Tryz.func188, Tryz.results188, resultsV, resultV, go_sem, *, Nat.reduceLT, Int.reduceEq, Int.reduceBEq, Int.reduceLE, Int.reduceLT, Nat.reduceAdd, Nat.reduceBEq, Nat.reduceEqDiff, reduceIte, Nat.reduceLeDiff, Nat.reduceMul, Nat.reduceSub, reduceCtorEq, frzRes, dFrz, frzCells, isRet_ret, tupleOf]
        all_goals rfl
      · rw [h3]
        rw [h1] at k200
        have hd : decide ((i : Int) ≥ 0) = true := by simp
        have hw : IntKind.i64.wrap ((i : Int) + ((0 + 1 : Nat) : Int)) = ((i + 1 : Nat) : Int) := by rw [wrap_small (by omega) (by omega)]; omega
        have hw2 : IntKind.i64.wrap ((i : Int) + ((1 : Nat) : Int)) = ((i + 1 : Nat) : Int) := hw
        have hw3 : IntKind.i64.wrap ((i : Int) + 1) = ((i + 1 : Nat) : Int) := hw
        have c1 : ∀ H, sliceV Tryz.prog H 9 (.str s) none (some (some (.int .i64 (i : Int)))) none = some (.str (s.take i)) := fun H => by
          have b1 : boundV (some (some (.int .i64 (i : Int)))) s.length s.length = some i := by
            simp only [boundV]
            rw [if_pos (by omega)]
            simp
          have b2 : boundV none 0 i = some 0 := rfl
          simp only [sliceV, Tryz.underlying9, strCut, boundsV, b1, b2, List.drop_zero]
        have c2 : ∀ H, sliceV Tryz.prog H 9 (.str s) (some (some (.int .i64 ((i + 1 : Nat) : Int)))) none none = some (.str (s.drop (i + 1))) := fun H => by
          have b1 : boundV none s.length s.length = some s.length := rfl
          have b2 : boundV (some (some (.int .i64 ((i + 1 : Nat) : Int)))) 0 s.length = some (i + 1) := by
            simp only [boundV]
            rw [if_pos (by omega)]
            simp
          simp only [sliceV, Tryz.underlying9, strCut, boundsV, b1, b2, List.take_length]
        clear h1 h2 h3
        generalize s.take i = va at *
        generalize s.drop (i + 1) = vb at *
        generalize ((i + 1 : Nat) : Int) = i1 at *
        refine ClR.walk (c := _) rfl Tryz.func188 rfl (by kernel_rfl) rfl isRet_fail ?_
        simp only [entryEnv, Nat.reduceAdd]
        repeat' (first | (apply W.drawQ (id := 3) (l1 := [0, 1, 2, 3, 4, 5, 6, 7, 8, 9, 10, 11]) (l2 := []); kernel_rfl; kernel_rfl; kernel_rfl; exact Z4) | (apply U4 (v := .str va); (focus (simp only [go_sem, *, Nat.reduceLT, Int.reduceEq, Int.reduceBEq, Int.reduceLE, Int.reduceLT, Nat.reduceAdd, Nat.reduceBEq, Nat.reduceEqDiff, reduceIte, Nat.reduceLeDiff, Nat.reduceMul, Nat.reduceSub, reduceCtorEq, Option.map_none, Option.map_some]; done)); exact rfl; simp only [pM, pN, rR, rP]) | (apply U4 (v := .str vb); (focus (simp only [go_sem, *, Nat.reduceLT, Int.reduceEq, Int.reduceBEq, Int.reduceLE, Int.reduceLT, Nat.reduceAdd, Nat.reduceBEq, Nat.reduceEqDiff, reduceIte, Nat.reduceLeDiff, Nat.reduceMul, Nat.reduceSub, reduceCtorEq, Option.map_none, Option.map_some]; done)); exact rfl; simp only [pM, pN, rR, rP]) | refine go1 ?_ | (apply U6; exact Z1; exact Z1; (focus (simp only [List.nil_append, List.append_nil]; first | exact k200 _)); simp only [pM, pN, rR, rP]) | refine go2 (fun hh => ?_) (fun hh => ?_) | fail)
        all_goals simp only [resV_def (X := dX c188) Tryz.func188, Tryz.results188, resultsV, resultV, go_sem, *, Nat.reduceLT, Int.reduceEq, Int.reduceBEq, Int.reduceLE, Int.reduceLT, Nat.reduceAdd, Nat.reduceBEq, Nat.reduceEqDiff, reduceIte, Nat.reduceLeDiff, Nat.reduceMul, Nat.reduceSub, reduceCtorEq, frzRes, dFrz, frzCells, isRet_ret, tupleOf]
        all_goals rfl
    · cases h
  · cases h
theorem K188 {X : Ctx} (hX : X.intr 188 = some (pureFn sp159)) (s : List UInt8) (c : UInt8) (hs : s.length ≤ 60000) (h : Heap) : Cl X 188 [.str s, .str [c]] h (.ret (cutT c s) h none) := Cl.intr hX (by simp only [pureFn, AV.purL, AV.pur, Bool.and_self, if_true, sp159, hs])
noncomputable def c159 : FuncId → Option (List AV → Heap → Option (AV × Heap))
  | 188 => some (pureFn sp159)
  | _ => none
theorem c159_sound : Sound (dX c159) := dX_sound (fun f g h => by
  unfold c159 at h
  split at h
  · cases h; exact F188
  · cases h)
theorem F159 : IntrFn Tryz.prog 159 (pureFn sp159) := by
  refine pure_fn (X := dX c159) c159_sound p159 ?_
  intro args v h
  unfold sp159 at h
  split at h
  · rename_i s c
    split at h
    · rename_i hs
      have h := Option.some.inj h
      subst h
      have k188 := fun h => K188 (X := dX c159) rfl s c hs h
      unfold cutT at k188 ⊢
      generalize (cutR c s).1 = a1 at *
      generalize (cutR c s).2.1 = a2 at *
      generalize (cutR c s).2.2 = a3 at *
      refine ClR.walk (c := _) rfl Tryz.func159 rfl (by kernel_rfl) rfl isRet_fail ?_
      simp only [entryEnv, Nat.reduceAdd]
      repeat' (first | refine goS ?_ | (apply U6; exact Z1; exact Z1; (focus (simp only [List.nil_append, List.append_nil]; first | exact k188 _)); simp only [pM, pN, rR, rP]) | refine go2 (fun hh => ?_) (fun hh => ?_) | fail)
      all_goals simp only [resV_def (X := dX c159) Tryz.func159, Tryz.results159, resultsV, resultV, go_sem, *, Nat.reduceLT, Int.reduceEq, Int.reduceBEq, Int.reduceLE, Int.reduceLT, Nat.reduceAdd, Nat.reduceBEq, Nat.reduceEqDiff, reduceIte, Nat.reduceLeDiff, Nat.reduceMul, Nat.reduceSub, reduceCtorEq, frzRes, dFrz, frzCells, isRet_ret, tupleOf]
      all_goals rfl
    · cases h
  · cases h
theorem K159 {X : Ctx} (hX : X.intr 159 = some (pureFn sp159)) (s : List UInt8) (c : UInt8) (hs : s.length ≤ 60000) (h : Heap) : Cl X 159 [.str s, .str [c]] h (.ret (.tuple [.str (cutR c s).1, .str (cutR c s).2.1, .bool (cutR c s).2.2]) h none) := Cl.intr hX (by simp only [pureFn, AV.purL, AV.pur, Bool.and_self, if_true, sp159, hs]; rfl)
end Go.AM
set_option linter.unusedSimpArgs false
set_option linter.unusedVariables false
set_option linter.unusedSectionVars false
namespace Go.AM
open Go
variable [Keep]
def SepV (a b : AV) : Prop := ∀ id x y x' y', a = .row id x y → b ≠ .row id x' y'
theorem SepV.symm {a b : AV} (h : SepV a b) : SepV b a := fun id x y x' y' e f => h id x' y' x y f e
theorem SepV.nil (b : AV) : SepV .nilslice b := fun _ _ _ _ _ e => by cases e
theorem SepV.nil' (a : AV) : SepV a .nilslice := fun _ _ _ _ _ _ e => by cases e
section
variable {b n : Nat} {h h' : Heap} {u v : AV} {sz : Nat} {l : List AV}
theorem BltN.apart (q : BltN b h v sz l) (k : Keeps h h' u) (s : SepV v u) : BltN b h' v sz l := by
  rcases q with q | ⟨id, rfl, h2, h3, h4, h5⟩
  · exact .inl q
  · exact .inr ⟨id, rfl, (k.2 id h4 fun off n e => s id _ _ _ _ rfl e).trans h2, h3, Nat.lt_of_lt_of_le h4 k.1, h5⟩
theorem SepV.new (q : BltN b h v sz l) : SepV v (.row h.next 0 n) := by
  intro id x y x' y' e f
  rcases q with ⟨rfl, _⟩ | ⟨i, rfl, _, _, h4, _⟩
  · cases e
  · cases e
    cases f
    omega
end
structure Tri (b : Nat) (h : Heap) (u1 u2 u3 : AV) (s1 s2 s3 : Nat) (l1 l2 l3 : List AV) : Prop where
  b1 : BltN b h u1 s1 l1
  b2 : BltN b h u2 s2 l2
  b3 : BltN b h u3 s3 l3
  s12 : SepV u1 u2
  s13 : SepV u1 u3
  s23 : SepV u2 u3
section
variable {b : Nat} {h h' : Heap} {u1 u2 u3 v : AV} {s1 s2 s3 n : Nat} {l1 l2 l3 r : List AV}
theorem Tri.nil : Tri b h .nilslice .nilslice .nilslice s1 s2 s3 [] [] [] := ⟨.nil, .nil, .nil, .nil _, .nil _, .nil _⟩
theorem Tri.keep (q : Tri b h u1 u2 u3 s1 s2 s3 l1 l2 l3) (x : HExt h h') : Tri b h' u1 u2 u3 s1 s2 s3 l1 l2 l3 := ⟨q.b1.keep x, q.b2.keep x, q.b3.keep x, q.s12, q.s13, q.s23⟩
theorem Tri.turn (q : Tri b h u1 u2 u3 s1 s2 s3 l1 l2 l3) : Tri b h u2 u3 u1 s2 s3 s1 l2 l3 l1 := ⟨q.b2, q.b3, q.b1, q.s23, q.s12.symm, q.s13.symm⟩
theorem Tri.one (q : Tri b h u1 u2 u3 s1 s2 s3 l1 l2 l3) (hb : BltN b h' v s1 r) (k : Keeps h h' u1) (e : v = .row h.next 0 n) : Tri b h' v u2 u3 s1 s2 s3 r l2 l3 := by
  subst e
  exact ⟨hb, q.b2.apart k q.s12.symm, q.b3.apart k q.s13.symm, (SepV.new q.b2).symm, (SepV.new q.b3).symm, q.s23⟩
theorem Tri.two (q : Tri b h u1 u2 u3 s1 s2 s3 l1 l2 l3) (hb : BltN b h' v s2 r) (k : Keeps h h' u2) (e : v = .row h.next 0 n) : Tri b h' u1 v u3 s1 s2 s3 l1 r l3 := (q.turn.one hb k e).turn.turn
theorem Tri.three (q : Tri b h u1 u2 u3 s1 s2 s3 l1 l2 l3) (hb : BltN b h' v s3 r) (k : Keeps h h' u3) (e : v = .row h.next 0 n) : Tri b h' u1 u2 v s1 s2 s3 l1 l2 r := (q.turn.turn.one hb k e).turn
end
section
variable {X : Ctx} {ops : Array Oper} {K P : AV → Fr → Prop} {F : Fr} {d : Option Tmp} {T : TypeId} {p : String} {af : Array Edge}
theorem WO1.appendX {args : Array Operand} {at_ : Array TypeId} {t u e e' : TypeId} {tl : List TypeId} {sz b : Nat} {x y : AV} {new l : List AV} {h0 : Heap} (hb : BltN b F.hp x sz l) (hx : b ≤ F.hp.next ∧ ∀ id, id < b → F.hp.get id = h0.get id) (hargs : F.opvs args.toList = some [x, y]) (ht : at_.toList = t :: u :: tl) (hu : X.P.underlying u = some (.slice e'))
    (hel : elemT X.P t = some e) (hs : szT X.P e = sz) (hrow : rowable X.P e = true) (hy : F.hp.elems y = some new) (hsz : ∀ v ∈ new, v.cells.length = sz) (hlen : l.length + new.length ≤ most) (hne : new ≠ [])
    (h : ∀ v' h', BltN b h' v' sz (l ++ new) → outV (some v') = some v' → Keeps F.hp h' x → v' = .row F.hp.next 0 (l ++ new).length → (b ≤ h'.next ∧ ∀ id, id < b → h'.get id = h0.get id) → K v' (({ F with hp := h' } : Fr).put d v')) : WO1 X ops ⟨d, .call ⟨.builtin .append, args, at_⟩, T, p, af, none⟩ F K P := by
  subst hs
  obtain ⟨v', h', q1, q2, q3, q4⟩ := append_blt hel hrow hsz hb.blt hlen hne
  have hB : BltN b h' v' (szT X.P e) (l ++ new) := by
    rcases q2 with ⟨q, e⟩ | ⟨id, g1, g2, g3, g4⟩
    · exact absurd e (by simp [hne])
    · refine .inr ⟨id, g1, g2, ?_, g3, g4⟩
      rw [q4] at g1
      cases g1
      exact hx.1
  have hX : b ≤ h'.next ∧ ∀ id, id < b → h'.get id = h0.get id := by
    refine ⟨Nat.le_trans hx.1 q3.1, fun id hid => ?_⟩
    rw [q3.2 id (Nat.lt_of_lt_of_le hid hx.1) (fun off n ev => ?_)]
    · exact hx.2 id hid
    · rcases hb with ⟨rfl, _⟩ | ⟨j, rfl, _, hj, _⟩
      · cases ev
      · cases ev; omega
  refine U5 (v := v') (F' := { F with hp := h' }) rfl (fun cl rd => ?_) (h v' h' hB q2.out q3 q4 hX)
  simp only [efV, Fr.callOp, Fr.builtinE, Fr.appendE, ht, hargs, hu]
  cases y <;> first | (simp only [hy, q1, okO]; done) | simp [Heap.elems] at hy
theorem WO1.appendZ {args : Array Operand} {at_ : Array TypeId} {t u e : TypeId} {ik : IntKind} {tl : List TypeId} {sz b : Nat} {x y : AV} {new l : List AV} {h0 : Heap} (hb : BltN b F.hp x sz l) (hx : b ≤ F.hp.next ∧ ∀ id, id < b → F.hp.get id = h0.get id) (hargs : F.opvs args.toList = some [x, y]) (ht : at_.toList = t :: u :: tl) (hu : X.P.underlying u = some (.int ik))
    (hz : zerosA X.P t y = some new) (hel : elemT X.P t = some e) (hs : szT X.P e = sz) (hrow : rowable X.P e = true) (hsz : ∀ v ∈ new, v.cells.length = sz) (hlen : l.length + new.length ≤ most)
    (h : ∀ v' h', BltN b h' v' sz (l ++ new) → outV (some v') = some v' → (b ≤ h'.next ∧ ∀ id, id < b → h'.get id = h0.get id) → K v' (({ F with hp := h' } : Fr).put d v')) : WO1 X ops ⟨d, .call ⟨.builtin .append, args, at_⟩, T, p, af, none⟩ F K P := by
  subst hs
  by_cases hne : new = []
  · subst hne
    refine U5 (v := x) (F' := F) rfl (fun cl rd => ?_) ?_
    · simp only [efV, Fr.callOp, Fr.builtinE, Fr.appendE, ht, hargs, hu, hz, appendV, hel, hrow, List.all_nil, Bool.not_true, Bool.or_self, Bool.false_eq_true, if_false, List.length_nil, if_true, okO]
      rcases hb with ⟨rfl, _⟩ | ⟨j, rfl, _⟩ <;> rfl
    · have := h x F.hp (by rw [List.append_nil]; exact hb) hb.blt.out hx
      exact this
  · obtain ⟨v', h', q1, q2, q3, q4⟩ := append_blt hel hrow hsz hb.blt hlen hne
    have hB : BltN b h' v' (szT X.P e) (l ++ new) := by
      rcases q2 with ⟨q, e⟩ | ⟨id, g1, g2, g3, g4⟩
      · exact absurd e (by simp [hne])
      · refine .inr ⟨id, g1, g2, ?_, g3, g4⟩
        rw [q4] at g1
        cases g1
        exact hx.1
    have hX : b ≤ h'.next ∧ ∀ id, id < b → h'.get id = h0.get id := by
      refine ⟨Nat.le_trans hx.1 q3.1, fun id hid => ?_⟩
      rw [q3.2 id (Nat.lt_of_lt_of_le hid hx.1) (fun off n ev => ?_)]
      · exact hx.2 id hid
      · rcases hb with ⟨rfl, _⟩ | ⟨j, rfl, _, hj, _⟩
        · cases ev
        · cases ev; omega
    refine U5 (v := v') (F' := { F with hp := h' }) rfl (fun cl rd => ?_) (h v' h' hB q2.out hX)
    simp only [efV, Fr.callOp, Fr.builtinE, Fr.appendE, ht, hargs, hu, hz, q1, okO]
end
end Go.AM
set_option linter.unusedSectionVars false
set_option linter.unusedVariables false
set_option linter.unusedSimpArgs false
set_option maxRecDepth 100000
namespace Go.AM
open Go Go.Proofs
variable [Keep]
attribute [local irreducible] W WO WO1 WD WQ WT thenQ blockQ endR isRet retK Cl ClR
open Go.TX (Rm Fa Ha Hs textH smallH smallP matchF fRoom fFan fHand fHouse fOpen rmOf faOf haOf stepP foldF foldF_app readP wHouse wRoom wMake wWait wStart wFan wOpen wHand match_small stepP_small)
theorem viewD_hs {h : Heap} {n : Int} {ra fa oa ha ra' fa' oa' ha' : AV} (h1 : viewV h ra = some ra') (h2 : viewV h fa = some fa') (h3 : viewV h oa = some oa') (h4 : viewV h ha = some ha') :
    viewD h (.agg [.int .i64 n, ra, fa, oa, ha]) = some (.agg [.int .i64 n, ra', fa', oa', ha']) := by
  have e : ∀ n, viewV h (.int .i64 n) = some (.int .i64 n) := fun n => rfl
  simp only [viewD, viewVs, h1, h2, h3, h4, e, Option.map_some]
theorem K110 {X : Ctx} (hX : X.intr 110 = some (flatFnD sp110)) {ra fa oa ha : AV} {m : Hs} {h : Heap} (h1 : SeeV h rmC ra m.rooms) (h2 : SeeV h faC fa m.fans) (h3 : SeeV h intC oa m.op) (h4 : SeeV h haC ha m.hands) (hok : okT m = true) :
    Cl X 110 [.agg [.int .i64 m.hours, ra, fa, oa, ha]] h (.ret (.str (textH m)) h none) := by
  obtain ⟨ra', v1, s1⟩ := h1
  obtain ⟨fa', v2, s2⟩ := h2
  obtain ⟨oa', v3, s3⟩ := h3
  obtain ⟨ha', v4, s4⟩ := h4
  exact Cl.intr hX (by simp only [flatFnD, viewDs, viewD_hs v1 v2 v3 v4, sp110, hsV, s1, s2, s3, s4, hok, if_true])
theorem Blt.viewS {h : Heap} {v : AV} {sz : Nat} {l : List AV} (b : Blt h v sz l) (hp : ∀ a ∈ l, a.pur = true) : viewV h v = some (slN l) := by
  rcases b with ⟨rfl, rfl⟩ | ⟨id, rfl, hg, h3, hne⟩
  · rfl
  · have h1 : AV.purL l = true := purL_of hp
    cases l with
    | nil => exact absurd rfl hne
    | cons x l => simp [viewV, hg, h1, slN]
theorem SeeV.blt {α : Type} {c : Cd α} {a : AV} {sz : Nat} {l : List α} {h : Heap} (b : Blt h a sz (l.map c.enc)) (hl : l.length ≤ maxL) : SeeV h c a l :=
  ⟨_, b.viewS (enc_pur c l), slV_slN hl⟩
def hsE (m : Hs) : AV := .agg [.int .i64 m.hours, slN (m.rooms.map rmC.enc), slN (m.fans.map faC.enc), slN (intsE m.op), slN (m.hands.map haC.enc)]
def readR (s : List UInt8) (h : Heap) (r : COut) : Prop := ∃ h', HExt h h' ∧ match readP s with | some m => r = .ret (hsE m) h' none | none => ∃ u, r = .pan (.iface 207 (.agg [.str u])) h' none
theorem readR_fail {s : List UInt8} {h : Heap} : ¬ readR s h .fail := by
  rintro ⟨h', _, e⟩
  split at e
  · cases e
  · obtain ⟨u, e⟩ := e
    cases e
section
variable {s u : List UInt8} {h h' : Heap} {m : Hs}
theorem readR_pan (x : HExt h h') (e : readP s = none) : readR s h (.pan (.iface 207 (.agg [.str u])) h' none) := ⟨h', x, by rw [e]; exact ⟨u, rfl⟩⟩
theorem readR_ret (x : HExt h h') (e : readP s = some m) : readR s h (.ret (hsE m) h' none) := ⟨h', x, by rw [e]⟩
end
def restP (s : List UInt8) : List (List UInt8) := ((spL 10 s).drop 1).take ((spL 10 s).length - 3)
theorem read_few {s : List UInt8} (h : ¬ 3 ≤ (spL 10 s).length) : readP s = none := by unfold readP; rw [if_neg h]
theorem read_head {s : List UInt8} (h : matchF (spL 32 ((spL 10 s).getD 0 [])) fHouse = none) : readP s = none := by
  unfold readP
  split
  · rw [h]
  · rfl
theorem read_body {s : List UInt8} {n : List Int} (h0 : 3 ≤ (spL 10 s).length) (h : matchF (spL 32 ((spL 10 s).getD 0 [])) fHouse = some n) : readP s = match foldF stepP ⟨n.getD 0 0, [], [], [], []⟩ (restP s) with
      | none => none
      | some h => if textH h = s then some h else none := by
  unfold readP restP
  rw [if_pos h0, h]
  simp only
  generalize foldF stepP ⟨n.getD 0 0, [], [], [], []⟩ (((spL 10 s).drop 1).take ((spL 10 s).length - 3)) = o
  cases o <;> rfl
theorem fold_stop {f : Hs → List UInt8 → Option Hs} {g0 g : Hs} {L : List (List UInt8)} {k : Nat} {l : List UInt8} (hl : L[k]? = some l) (h1 : foldF f g0 (L.take k) = some g) (h2 : f g l = none) : foldF f g0 L = none := by
  have e : L = L.take k ++ l :: L.drop (k + 1) := by
    rw [← drop_at hl, List.take_append_drop]
  rw [e, foldF_app, h1]
  simp only [foldF, h2]
theorem fold_next {f : Hs → List UInt8 → Option Hs} {g0 g g' : Hs} {L : List (List UInt8)} {k : Nat} {l : List UInt8} (hl : L[k]? = some l) (h1 : foldF f g0 (L.take k) = some g) (h2 : f g l = some g') : foldF f g0 (L.take (k + 1)) = some g' := by
  rw [take_next hl, foldF_app, h1]
  simp only [foldF, h2]
theorem step_room {g : Hs} {l : List UInt8} (h : (spL 32 l).getD 0 [] = wRoom) : stepP g l = match matchF (spL 32 l) fRoom with | some n => some ⟨g.hours, g.rooms ++ [rmOf n], g.fans, g.op, g.hands⟩ | none => none := by unfold stepP; rw [if_pos h]; cases matchF (spL 32 l) fRoom <;> rfl
theorem step_fan {g : Hs} {l : List UInt8} (h : (spL 32 l).getD 0 [] ≠ wRoom) (h2 : (spL 32 l).getD 0 [] = wFan) : stepP g l = match matchF (spL 32 l) fFan with | some n => some ⟨g.hours, g.rooms, g.fans ++ [faOf n], g.op, g.hands⟩ | none => none := by unfold stepP; rw [if_neg h, if_pos h2]; cases matchF (spL 32 l) fFan <;> rfl
theorem step_open {g : Hs} {l : List UInt8} (h : (spL 32 l).getD 0 [] ≠ wRoom) (h2 : (spL 32 l).getD 0 [] ≠ wFan) (h3 : (spL 32 l).getD 0 [] = wOpen) : stepP g l = match matchF (spL 32 l) (fOpen ((spL 32 l).length - 1)) with | some n => some ⟨g.hours, g.rooms, g.fans, n, g.hands⟩ | none => none := by unfold stepP; rw [if_neg h, if_neg h2, if_pos h3]; cases matchF (spL 32 l) (fOpen ((spL 32 l).length - 1)) <;> rfl
theorem step_hand {g : Hs} {l : List UInt8} (h : (spL 32 l).getD 0 [] ≠ wRoom) (h2 : (spL 32 l).getD 0 [] ≠ wFan) (h3 : (spL 32 l).getD 0 [] ≠ wOpen) : stepP g l = match matchF (spL 32 l) fHand with | some n => some ⟨g.hours, g.rooms, g.fans, g.op, g.hands ++ [haOf n]⟩ | none => none := by unfold stepP; rw [if_neg h, if_neg h2, if_neg h3]; cases matchF (spL 32 l) fHand <;> rfl
theorem rest_len (s : List UInt8) : (restP s).length = (spL 10 s).length - 3 := by unfold restP; rw [List.length_take, List.length_drop]; omega
theorem rest_mem {s l : List UInt8} (h : l ∈ restP s) : l ∈ spL 10 s := List.mem_of_mem_drop (List.mem_of_mem_take h)
theorem cut167 {l : List (List UInt8)} {b : Nat} {y : Int} (hy : y = (b : Int)) (hab : 1 ≤ b) (hb : b ≤ l.length) : ∀ H, sliceV Tryz.prog H 167 (.vslice (l.map AV.str)) (some (some (.int .i64 1))) (some (some (.int .i64 y))) none = some (.vslice (((l.take b).drop 1).map AV.str)) := by
  intro H
  subst hy
  have hh : headOk 1 (l.map AV.str) = true := by cases l <;> rfl
  have b1 : boundV (some (some (.int .i64 (b : Int)))) (l.map AV.str).length (l.map AV.str).length = some b := by
    simp only [boundV]
    rw [if_pos (by simp; omega)]
    simp
  have b2 : boundV (some (some (.int .i64 1))) 0 b = some 1 := by
    simp only [boundV]
    rw [if_pos (by omega)]
    rfl
  simp only [sliceV, Tryz.underlying167, ty_lay9, lenS_vslice, boundsV, b1, b2, cutV, hh, Bool.false_eq_true, if_false, if_true]
  rw [List.map_drop, List.map_take]
theorem rest_is (s : List UInt8) (h : 3 ≤ (spL 10 s).length) : ((spL 10 s).take ((spL 10 s).length - 2)).drop 1 = restP s := by
  unfold restP
  rw [List.drop_take]
  congr 1
theorem spL_count (c : UInt8) : ∀ s : List UInt8, (spL c s).length = s.count c + 1 := by
  intro s
  induction s with
  | nil => rfl
  | cons a r ih =>
    simp only [spL, List.count_cons]
    by_cases e : a = c
    · subst e
      simp [ih]
    · have e' : (a == c) = false := by simpa using e
      rw [if_neg e, e']
      cases q : spL c r with
      | nil => exact absurd q (spL_ne c r)
      | cons p l =>
        rw [q] at ih
        simpa using ih
theorem nums_1 {n : List Int} (h : n.length = 1) : ∃ a, n = [a] := by
  match n, h with
  | [a], _ => exact ⟨a, rfl⟩
theorem nums_2 {n : List Int} (h : n.length = 2) : ∃ a b, n = [a, b] := by
  match n, h with
  | [a, b], _ => exact ⟨a, b, rfl⟩
theorem nums_5 {n : List Int} (h : n.length = 5) : ∃ a b c d e, n = [a, b, c, d, e] := by
  match n, h with
  | [a, b, c, d, e], _ => exact ⟨a, b, c, d, e, rfl⟩
theorem ints_sl (l : List Int) (h : l.length ≤ maxL) : slV intC (slN (intsE l)) = some l := slV_slN (c := intC) h
theorem opens_at (k : Nat) : (fOpen k).map formS = [111, 112, 101, 110] :: List.replicate k [] := by
  unfold fOpen
  rw [List.map_cons, List.map_replicate]
  rfl
theorem BltN.afterFrz {b : Nat} {h h' : Heap} {u v w : AV} {sz : Nat} {l : List AV} (q : BltN b h v sz l) (f : frz1 h u = some (w, h')) (e : h'.next = h.next) (_p : ∀ id, id < b → h'.get id = h.get id) (s : SepV v u) : BltN b h' v sz l := by
  rcases q with q | ⟨id, rfl, h2, h3, h4, h5⟩
  · exact .inl q
  · refine .inr ⟨id, rfl, ?_, h3, by rw [e]; exact h4, h5⟩
    unfold frz1 at f
    split at f
    · rename_i j off len
      split at f
      · split at f
        · cases f
          have : ¬ j = id := fun q => s id _ _ off len rfl (by rw [q])
          simpa [Heap.get, Heap.del, this] using h2
        · cases f
      · cases f
    · cases f
      exact h2
theorem BltN.parts {b : Nat} {h : Heap} {v : AV} {sz : Nat} {l : List AV} (q : BltN b h v sz l) : outV (some v) = some v ∧ v.cells = [v] ∧ isTuple v = false := ⟨q.blt.out, q.blt.cells, q.blt.tup⟩
attribute [local irreducible] readP readR matchF fOpen stepP foldF textH restP
set_option maxHeartbeats 8000000 in
theorem C113 (c : FuncId → Option (List AV → Heap → Option (AV × Heap))) (hc : c 113 = none) (hc8 : c 158 = none) (hc0 : c 187 = none) (hc1 : c 157 = none) (hc3 : c 154 = some (atOnce spItoa)) (hc4 : c 156 = some (atOnce spSplit)) (hc5 : c 151 = some (pureFn sp151)) (hc6 : c 159 = some (pureFn sp159)) (hc7 : c 160 = some (atOnce spCount)) (hc9 : c 110 = some (flatFnD sp110))
    (s : List UInt8) (h : Heap) (hs : s.length ≤ 500) : ClR (dX c) 113 [.str s] h (readR s h) := by
  have k156 := fun h => K156 (X := dX c) hc4 s 10 (by unfold maxL; omega) h
  obtain ⟨hl1, hl2⟩ := spL_len 10 s
  have hlt := strs_sl (spL 10 s) (by unfold maxL; omega)
  have hlen := sl_len hlt
  have hout := sl_out hlt
  by_cases h3 : 3 ≤ (spL 10 s).length
  · have hge : decide (((spL 10 s).length : Int) ≥ 3) = true := by simp; omega
    obtain ⟨l0, hl0⟩ := get_some (l := spL 10 s) (k := 0) (by omega)
    have hl0' : (spL 10 s).getD 0 [] = l0 := by simp [List.getD, hl0]
    have hix0 : ∀ H, indexAddrV Tryz.prog H 167 (.vslice ((spL 10 s).map AV.str)) (.int .i64 0) = some (.vptr [.str l0]) := fun H => strs_idx hlt hl0 H
    have hw2 : IntKind.i64.wrap (((spL 10 s).length : Int) - 2) = (((spL 10 s).length - 2 : Nat) : Int) := by rw [wrap_small (by omega) (by omega)]; omega
    have hct := cut167 (l := spL 10 s) (b := (spL 10 s).length - 2) rfl (by omega) (by omega)
    rw [rest_is s h3] at hct
    have hrl := rest_len s
    have hrm : ∀ l ∈ restP s, l.length ≤ 500 := fun l hl => Nat.le_trans (hl2 l (rest_mem hl)) hs
    have hrs := strs_sl (restP s) (by unfold maxL; omega)
    have hrlen := sl_len hrs
    have hrout := sl_out hrs
    have k157 := fun h => C157 c hc1 true s h
    simp only [sureC, if_true] at k157
    have hcl0 := C158 c hc8 hc0 hc1 hc3 hc4 l0 (.vslice [.str [104, 111, 117, 115, 101], .str []]) fHouse h (by have := hl2 l0 (List.mem_of_getElem? hl0); omega) (by unfold fHouse; intro w hw; simp at hw; subst hw; decide) (.inl rfl)
    have hrb := fun n => read_body (s := s) (n := n) h3
    have hrh := read_head (s := s)
    rw [hl0'] at hrb hrh
    unfold ClR numsR at hcl0
    obtain ⟨r, hcl, hq, hqx, hr⟩ := hcl0
    have hR : ∀ h' u, HExt h h' → readP s = none → readR s h (.pan (.iface 207 (.agg [.str u])) h' none) := fun h' u x e => readR_pan x e
    have hR2 : ∀ h' m, HExt h h' → readP s = some m → readR s h (.ret (hsE m) h' none) := fun h' m x e => readR_ret x e
    have hRF : ¬ readR s h .fail := readR_fail
    generalize readR s h = R at *
    generalize hva : AV.vslice ((spL 10 s).map AV.str) = va at *
    generalize hvb : AV.vslice ((restP s).map AV.str) = vb at *
    have HRS := Lib.hid hrs
    have HRM := Lib.hid hrm
    have HRL := Lib.hid hrl
    have HL1 := Lib.hid hl1
    have HR := Lib.hid hR
    have HR2 := Lib.hid hR2
    generalize (spL 10 s).length = L0 at *
    clear hl2 hlt hl0 hl0' hrs hrm hva hvb hR hR2 hrl
    cases hm0 : matchF (spL 32 l0) fHouse with
    | none =>
      rw [hm0] at hr
      obtain ⟨u, rfl⟩ := hr
      have HNN := Lib.hid (hrh hm0)
      have HQX := Lib.hid hqx
      clear hm0 hrh hrb hqx hrout hrlen
      refine ClR.walk (c := _) hc Tryz.func113 rfl (by kernel_rfl) rfl hRF ?_
      simp only [entryEnv, Nat.reduceAdd]
      repeat' (first | (simp only [tP, bP, eP, true_and]) | refine go1 ?_ | (apply U6; exact Z1; exact Z1; (focus (simp only [List.nil_append, List.append_nil]; first | exact k156 _ | exact k157 _ | exact hcl)); simp only [pM, pN, rR, rP]) | refine go2 (fun hh => ?_) (fun hh => ?_) | fail)
      exact HR.out _ _ HQX.out HNN.out
    | some ns =>
      rw [hm0] at hr
      subst hr
      obtain ⟨hns, hnl⟩ := match_small hm0
      obtain ⟨n0, rfl⟩ := nums_1 hnl
      have hsm0 : smallH ⟨n0, [], [], [], []⟩ = true := by
        rw [TX.sm_mk]
        simp only [List.all_cons, List.all_nil, Bool.and_true] at hns
        exact ⟨hns, rfl, rfl, rfl, rfl⟩
      have hisl := ints_sl [n0] (by unfold maxL; simp)
      have hixn : ∀ H, indexAddrV Tryz.prog H 24 (slN (intsE [n0])) (.int .i64 0) = some (.vptr [.int .i64 n0]) := fun H => ints_idx hisl (k := 0) rfl H
      have hison := sl_out hisl
      have hrb0 : readP s = match foldF stepP ⟨n0, [], [], [], []⟩ (restP s) with
        | none => none
        | some h => if textH h = s then some h else none := hrb [n0] hm0
      have HRB := Lib.hid hrb0
      have HQX := Lib.hid hqx
      have HSM0 := Lib.hid hsm0
      have k151 := fun h => K151 (X := dX c) hc5 h
      simp only [rwV] at k151
      clear hm0 hrh hrb hrb0 hns hnl hisl hqx hsm0
      generalize slN (intsE [n0]) = van at *
      refine ClR.walk (c := _) hc Tryz.func113 rfl (by kernel_rfl) rfl hRF ?_
      simp only [entryEnv, Nat.reduceAdd]
      repeat' (first | (apply U4 (v := vb); (focus (simp only [go_sem, *, Nat.reduceLT, Int.reduceEq, Int.reduceBEq, Int.reduceLE, Int.reduceLT, Nat.reduceAdd, Nat.reduceBEq, Nat.reduceEqDiff, reduceIte, Nat.reduceLeDiff, Nat.reduceMul, Nat.reduceSub, reduceCtorEq, Option.map_none, Option.map_some]; done)); exact rfl; simp only [pM, pN, rR, rP]) | refine go1 ?_ | (apply U6; exact Z1; exact Z1; (focus (simp only [List.nil_append, List.append_nil]; first | exact k156 _ | exact k157 _ | exact hcl | exact k151 _)); simp only [pM, pN, rR, rP]) | refine go2 (fun hh => ?_) (fun hh => ?_) | fail)
      have hX0 : h.next ≤ hq.next ∧ ∀ id, id < h.next → hq.get id = h.get id := HQX.out
      refine W.loopV ((restP s).length) [0, 2, 4, 5, 35, 36] [2, 5] (fun k e lm hp => ∃ g u1 u2 u3 oa, e.get 37 = some (.int .i64 ↑k) ∧ lm.get 4 = some (0, [.int .i64 g.hours, u1, u2, oa, u3]) ∧ foldF stepP ⟨n0, [], [], [], []⟩ ((restP s).take k) = some g ∧ smallH g = true ∧ Tri h.next hp u1 u2 u3 5 2 2 (g.rooms.map rmC.enc) (g.fans.map faC.enc) (g.hands.map haC.enc) ∧ slV intC oa = some g.op ∧ (h.next ≤ hp.next ∧ ∀ id, id < h.next → hp.get id = h.get id) ∧ (g.rooms.length ≤ k ∧ g.fans.length ≤ k ∧ g.hands.length ≤ k ∧ g.op.length ≤ 600) ∧ g.rooms.length + g.fans.length + g.hands.length ≤ k ∧ oa = slN (intsE g.op)) ?_ ?_
      · skip
        refine ⟨⟨n0, [], [], [], []⟩, .nilslice, .nilslice, .nilslice, .nilslice, ?_, ?_, ?_, HSM0.out, Tri.nil, rfl, hX0, ?_, Nat.le_refl _, rfl⟩
        all_goals first | exact Z2 | (simp [go_sem, *]; done) | skip
        unfold foldF
        simp
      intro k e lm hp hk0 hce hcl hinv
      simp only [keepE, and_true] at hce
      obtain ⟨c0, c2, c4, c5, c35, c36⟩ := hce
      simp only [go_sem, *, Nat.reduceLT, Int.reduceEq, Int.reduceBEq, Int.reduceLE, Int.reduceLT, Nat.reduceAdd, Nat.reduceBEq, Nat.reduceEqDiff, reduceIte, Nat.reduceLeDiff, Nat.reduceMul, Nat.reduceSub, reduceCtorEq] at c0 c2 c4 c5 c35 c36
      simp only [keepL, and_true] at hcl
      obtain ⟨d2, d5⟩ := hcl
      simp only [go_sem, *, Nat.reduceLT, Int.reduceEq, Int.reduceBEq, Int.reduceLE, Int.reduceLT, Nat.reduceAdd, Nat.reduceBEq, Nat.reduceEqDiff, reduceIte, Nat.reduceLeDiff, Nat.reduceMul, Nat.reduceSub, reduceCtorEq] at d2 d5
      obtain ⟨g, u1, u2, u3, oa, h37, g4, hfo, hsm, hTr, hoa, hX, hgl, hgl3, hoaN⟩ := hinv
      by_cases hlt : k < (restP s).length
      · have hd0 : decide ((k : Int) < (((restP s).length : Nat) : Int)) = true := by simpa using hlt
        have hv_0 := wrap_succ hlt (by have := HRL.out; have := HL1.out; unfold maxL; omega)
        have hB1 := hTr.b1
        have hB2 := hTr.b2
        have hB3 := hTr.b3
        obtain ⟨q1, q2, q3⟩ := hB1.parts
        obtain ⟨q4, q5, q6⟩ := hB2.parts
        obtain ⟨q7, q8, q9⟩ := hB3.parts
        have q10 := sl_out hoa
        have q11 := (slV_is hoa).1.cells
        have q12 := (slV_is hoa).1.tup
        simp only [AV.cells] at q2 q5 q8 q11
        simp only [isTuple] at q3 q6 q9 q12
        have HTR := Lib.hid hTr
        have HFO := Lib.hid hfo
        have HSM := Lib.hid hsm
        have HOA := Lib.hid hoa
        have HX := Lib.hid hX
        have HGL := Lib.hid hgl
        have HGL3 := Lib.hid hgl3
        have HOAN := Lib.hid hoaN
        obtain ⟨l, hl⟩ := get_some hlt
        have hlm := HRM.out l (List.mem_of_getElem? hl)
        have hix := fun H => strs_idx HRS.out hl H
        have k159 := fun h => K159 (X := dX c) hc6 l 32 (by omega) h
        obtain ⟨hw1, _⟩ := spL_len 32 l
        have hsr := step_room (g := g) (l := l)
        have hsf := step_fan (g := g) (l := l)
        have hso := step_open (g := g) (l := l)
        have hsh := step_hand (g := g) (l := l)
        have HL := Lib.hid hl
        have HLT0 := Lib.hid hlt
        have hkb : k ≤ 500 := by have := HRL.out; have := HL1.out; omega
        have HKB := Lib.hid hkb
        clear hTr hfo hsm hoa hl hlt hgl hkb hgl3 hoaN
        rw [← cut_head 32 l] at hsr hsf hso hsh
        generalize hwd : (cutR 32 l).1 = wd at *
        generalize (cutR 32 l).2.1 = wr at *
        generalize (cutR 32 l).2.2 = wb at *
        have hnone : stepP g l = none → readP s = none := fun e => by rw [HRB.out, fold_stop HL.out HFO.out e]
        have HNONE := Lib.hid hnone
        clear hnone hwd
        by_cases e1 : wd = wRoom
        · have hwq : (wd == wRoom) = true := by rw [e1]; rfl
          have hst := hsr e1
          have hc8' := C158 c hc8 hc0 hc1 hc3 hc4 l (.vslice [.str wRoom, .str [], .str [], .str wMake, .str [], .str wWait, .str [], .str wStart, .str []]) fRoom hp (by omega) (by unfold fRoom wRoom wMake wWait wStart; intro w hw; simp at hw; rcases hw with rfl | rfl | rfl | rfl <;> decide) (.inl rfl)
          unfold ClR numsR at hc8'
          obtain ⟨r, hcl, hq2, hqx2, hr⟩ := hc8'
          have hx2 : HExt h hq2 := HExt.trans hX hqx2
          have HX2 := Lib.hid hx2
          clear hsr hsf hso hsh e1
          cases hm : matchF (spL 32 l) fRoom with
          | none =>
            rw [hm] at hr hst
            obtain ⟨u, rfl⟩ := hr
            have HNN := Lib.hid (HNONE.out hst)
            clear hm hst hqx2 hX hx2 hB1 hB2 hB3
            repeat' (first | (simp only [tP, bP, eP, true_and]) | refine go1 ?_ | (apply U6; exact Z1; exact Z1; (focus (simp only [List.nil_append, List.append_nil]; first | exact k159 _ | exact hcl)); simp only [pM, pN, rR, rP]) | refine go2 (fun hh => ?_) (fun hh => ?_) | fail)
            exact HR.out _ _ HX2.out HNN.out
          | some ns =>
            rw [hm] at hr hst
            subst hr
            obtain ⟨hns, hnl⟩ := match_small hm
            obtain ⟨a0, a1, a2, a3, a4, rfl⟩ := nums_5 hnl
            have hisl := ints_sl [a0, a1, a2, a3, a4] (by unfold maxL; simp)
            have i0 : ∀ H, indexAddrV Tryz.prog H 24 (slN (intsE [a0, a1, a2, a3, a4])) (.int .i64 0) = some (.vptr [.int .i64 a0]) := fun H => ints_idx hisl (k := 0) rfl H
            have i1 : ∀ H, indexAddrV Tryz.prog H 24 (slN (intsE [a0, a1, a2, a3, a4])) (.int .i64 1) = some (.vptr [.int .i64 a1]) := fun H => ints_idx hisl (k := 1) rfl H
            have i2 : ∀ H, indexAddrV Tryz.prog H 24 (slN (intsE [a0, a1, a2, a3, a4])) (.int .i64 2) = some (.vptr [.int .i64 a2]) := fun H => ints_idx hisl (k := 2) rfl H
            have i3 : ∀ H, indexAddrV Tryz.prog H 24 (slN (intsE [a0, a1, a2, a3, a4])) (.int .i64 3) = some (.vptr [.int .i64 a3]) := fun H => ints_idx hisl (k := 3) rfl H
            have i4 : ∀ H, indexAddrV Tryz.prog H 24 (slN (intsE [a0, a1, a2, a3, a4])) (.int .i64 4) = some (.vptr [.int .i64 a4]) := fun H => ints_idx hisl (k := 4) rfl H
            have hison := sl_out hisl
            have hst : stepP g l = some ⟨g.hours, g.rooms ++ [⟨a0, a1, a2, a3, a4⟩], g.fans, g.op, g.hands⟩ := hst
            have HFN := Lib.hid (fold_next HL.out HFO.out hst)
            have HSN := Lib.hid (stepP_small HSM.out hst)
            replace hB1 := hB1.keep hqx2
            replace hX : h.next ≤ hq2.next ∧ ∀ id, id < h.next → hq2.get id = h.get id := hx2
            have HTR2 := Lib.hid (HTR.out.keep hqx2)
            have hll : g.rooms.length + 1 ≤ most := by have := HGL.out.1; have := HKB.out; unfold most; omega
            clear hm hst hqx2 hx2 hns hnl hisl hB2 hB3
            generalize slN (intsE [a0, a1, a2, a3, a4]) = van2 at *
            repeat' (first | (apply W.drawQ (id := 14) (l1 := [0, 1, 2, 3, 4, 5, 6, 7, 8, 9, 10, 11, 12, 13, 14, 15, 16, 17, 18, 19]) (l2 := [20, 21, 22]); kernel_rfl; kernel_rfl; kernel_rfl; exact Z4) | (apply W.drawQ (id := 17) (l1 := [0, 1, 2, 3, 4, 5, 6, 7, 8, 9]) (l2 := [10, 11, 12]); kernel_rfl; kernel_rfl; kernel_rfl; exact Z4) | (apply W.drawQ (id := 11) (l1 := [0, 1, 2, 3, 4, 5, 6, 7, 8, 9]) (l2 := [10, 11, 12]); kernel_rfl; kernel_rfl; kernel_rfl; exact Z4) | (apply WO1.appendX (t := 22) (u := 22) (e := 136) (e' := 136) (sz := 5) (tl := []) (b := h.next) (h0 := h) (hb := hB1) (hx := hX); exact Z1; exact rfl; exact Z2; exact Z2; exact Z2; (focus (exact ty_row22)); exact Z1; (focus (intro v hv; simp at hv; subst hv; rfl)); (focus (simp only [List.length_map, List.length_cons, List.length_nil]; exact hll)); (focus (simp)); (intro v' h' hB' ho' hK' hE' hX'; have hcc' := hB'.blt.cells; have htt' := hB'.blt.tup; simp only [AV.cells] at hcc'; simp only [isTuple] at htt'; simp only [pM, pN])) | refine go1 ?_ | (apply U6; exact Z1; exact Z1; (focus (simp only [List.nil_append, List.append_nil]; first | exact k159 _ | exact hcl)); simp only [pM, pN, rR, rP]) | refine go2 (fun hh => ?_) (fun hh => ?_) | fail)
            all_goals refine contV_mk (by first | assumption | exact HLT0.out) (by simp only [keepE, and_true, and_self, go_sem, *, Nat.reduceLT, Int.reduceEq, Int.reduceBEq, Int.reduceLE, Int.reduceLT, Nat.reduceAdd, Nat.reduceBEq, Nat.reduceEqDiff, reduceIte, Nat.reduceLeDiff, Nat.reduceMul, Nat.reduceSub, reduceCtorEq]) (by simp only [keepL, and_true, and_self, go_sem, *, Nat.reduceLT, Int.reduceEq, Int.reduceBEq, Int.reduceLE, Int.reduceLT, Nat.reduceAdd, Nat.reduceBEq, Nat.reduceEqDiff, reduceIte, Nat.reduceLeDiff, Nat.reduceMul, Nat.reduceSub, reduceCtorEq]) ?_
            all_goals refine ⟨⟨g.hours, g.rooms ++ [⟨a0, a1, a2, a3, a4⟩], g.fans, g.op, g.hands⟩, v', u2, u3, oa, ?_, ?_, HFN.out, HSN.out, ?_, HOA.out, hX', ?_, ?_, HOAN.out⟩
            all_goals first | exact Z2 | skip
            · have := HTR2.out.one hB' hK' hE'
              rw [List.map_append]
              exact this
            · have := HGL.out
              simp only [List.length_append, List.length_cons, List.length_nil]
              omega
            · have := HGL3.out
              simp only [List.length_append, List.length_cons, List.length_nil]
              omega
        · have hwq : (wd == wRoom) = false := by rw [beq_eq_false_iff_ne]; exact e1
          by_cases e2 : wd = wFan
          · have hwq2 : (wd == ([102, 97, 110] : List UInt8)) = true := by rw [e2]; rfl
            have hst := hsf e1 e2
            have hc8' := C158 c hc8 hc0 hc1 hc3 hc4 l (.vslice [.str [102, 97, 110], .str [], .str []]) fFan hp (by omega) (by unfold fFan wFan; intro w hw; simp at hw; subst hw; decide) (.inl rfl)
            unfold ClR numsR at hc8'
            obtain ⟨r, hcl, hq2, hqx2, hr⟩ := hc8'
            have hx2 : HExt h hq2 := HExt.trans hX hqx2
            have HX2 := Lib.hid hx2
            clear hsr hsf hso hsh e1 e2
            cases hm : matchF (spL 32 l) fFan with
            | none =>
              rw [hm] at hr hst
              obtain ⟨u, rfl⟩ := hr
              have HNN := Lib.hid (HNONE.out hst)
              clear hm hst hqx2 hX hx2 hB1 hB2 hB3
              repeat' (first | (simp only [tP, bP, eP, true_and]) | refine go1 ?_ | (apply U6; exact Z1; exact Z1; (focus (simp only [List.nil_append, List.append_nil]; first | exact k159 _ | exact hcl)); simp only [pM, pN, rR, rP]) | refine go2 (fun hh => ?_) (fun hh => ?_) | fail)
              exact HR.out _ _ HX2.out HNN.out
            | some ns =>
              rw [hm] at hr hst
              subst hr
              obtain ⟨hns, hnl⟩ := match_small hm
              obtain ⟨a0, a1, rfl⟩ := nums_2 hnl
              have hisl := ints_sl [a0, a1] (by unfold maxL; simp)
              have i0 : ∀ H, indexAddrV Tryz.prog H 24 (slN (intsE [a0, a1])) (.int .i64 0) = some (.vptr [.int .i64 a0]) := fun H => ints_idx hisl (k := 0) rfl H
              have i1 : ∀ H, indexAddrV Tryz.prog H 24 (slN (intsE [a0, a1])) (.int .i64 1) = some (.vptr [.int .i64 a1]) := fun H => ints_idx hisl (k := 1) rfl H
              have hison := sl_out hisl
              have hst : stepP g l = some ⟨g.hours, g.rooms, g.fans ++ [⟨a0, a1⟩], g.op, g.hands⟩ := hst
              have HFN := Lib.hid (fold_next HL.out HFO.out hst)
              have HSN := Lib.hid (stepP_small HSM.out hst)
              replace hB2 := hB2.keep hqx2
              replace hX : h.next ≤ hq2.next ∧ ∀ id, id < h.next → hq2.get id = h.get id := hx2
              have HTR2 := Lib.hid (HTR.out.keep hqx2)
              have hll : g.fans.length + 1 ≤ most := by have := HGL.out.2.1; have := HKB.out; unfold most; omega
              clear hm hst hqx2 hx2 hns hnl hisl hB1 hB3
              generalize slN (intsE [a0, a1]) = van2 at *
              repeat' (first | (apply W.drawQ (id := 14) (l1 := [0, 1, 2, 3, 4, 5, 6, 7, 8, 9, 10, 11, 12, 13, 14, 15, 16, 17, 18, 19]) (l2 := [20, 21, 22]); kernel_rfl; kernel_rfl; kernel_rfl; exact Z4) | (apply W.drawQ (id := 17) (l1 := [0, 1, 2, 3, 4, 5, 6, 7, 8, 9]) (l2 := [10, 11, 12]); kernel_rfl; kernel_rfl; kernel_rfl; exact Z4) | (apply W.drawQ (id := 11) (l1 := [0, 1, 2, 3, 4, 5, 6, 7, 8, 9]) (l2 := [10, 11, 12]); kernel_rfl; kernel_rfl; kernel_rfl; exact Z4) | (apply WO1.appendX (t := 23) (u := 23) (e := 103) (e' := 103) (sz := 2) (tl := []) (b := h.next) (h0 := h) (hb := hB2) (hx := hX); exact Z1; exact rfl; exact Z2; exact Z2; exact Z2; (focus (exact ty_row23)); exact Z1; (focus (intro v hv; simp at hv; subst hv; rfl)); (focus (simp only [List.length_map, List.length_cons, List.length_nil]; exact hll)); (focus (simp)); (intro v' h' hB' ho' hK' hE' hX'; have hcc' := hB'.blt.cells; have htt' := hB'.blt.tup; simp only [AV.cells] at hcc'; simp only [isTuple] at htt'; simp only [pM, pN])) | refine go1 ?_ | (apply U6; exact Z1; exact Z1; (focus (simp only [List.nil_append, List.append_nil]; first | exact k159 _ | exact hcl)); simp only [pM, pN, rR, rP]) | refine go2 (fun hh => ?_) (fun hh => ?_) | fail)
              all_goals refine contV_mk (by first | assumption | exact HLT0.out) (by simp only [keepE, and_true, and_self, go_sem, *, Nat.reduceLT, Int.reduceEq, Int.reduceBEq, Int.reduceLE, Int.reduceLT, Nat.reduceAdd, Nat.reduceBEq, Nat.reduceEqDiff, reduceIte, Nat.reduceLeDiff, Nat.reduceMul, Nat.reduceSub, reduceCtorEq]) (by simp only [keepL, and_true, and_self, go_sem, *, Nat.reduceLT, Int.reduceEq, Int.reduceBEq, Int.reduceLE, Int.reduceLT, Nat.reduceAdd, Nat.reduceBEq, Nat.reduceEqDiff, reduceIte, Nat.reduceLeDiff, Nat.reduceMul, Nat.reduceSub, reduceCtorEq]) ?_
              all_goals refine ⟨⟨g.hours, g.rooms, g.fans ++ [⟨a0, a1⟩], g.op, g.hands⟩, u1, v', u3, oa, ?_, ?_, HFN.out, HSN.out, ?_, HOA.out, hX', ?_, ?_, HOAN.out⟩
              all_goals first | exact Z2 | skip
              · have := HTR2.out.two hB' hK' hE'
                rw [List.map_append]
                exact this
              · have := HGL.out
                simp only [List.length_append, List.length_cons, List.length_nil]
                omega
              · have := HGL3.out
                simp only [List.length_append, List.length_cons, List.length_nil]
                omega
          · have hwq2 : (wd == ([102, 97, 110] : List UInt8)) = false := by rw [beq_eq_false_iff_ne]; exact e2
            by_cases e3 : wd = wOpen
            · have hwq3 : (wd == ([111, 112, 101, 110] : List UInt8)) = true := by rw [e3]; rfl
              have hst := hso e1 e2 e3
              have k160 := fun h => K160 (X := dX c) hc7 l 32 h
              have hcnt := spL_count 32 l
              have hfo' : (spL 32 l).length - 1 = l.count 32 := by omega
              rw [hfo'] at hst
              have hcn : l.count 32 ≤ 500 := by omega
              clear hsr hsf hso hsh e1 e2 e3 hcnt hfo'
              generalize l.count 32 = cn at *
              have hBo : BltN hp.next (hp.new (.rw 1 [.str [111, 112, 101, 110]])) (.row hp.next 0 (0 + 1)) 1 [.str [111, 112, 101, 110]] := .inr ⟨hp.next, rfl, by simp [Heap.get, Heap.new], Nat.le_refl _, by simp [Heap.new], by simp⟩
              have hXo : hp.next ≤ (hp.new (.rw 1 [.str [111, 112, 101, 110]])).next ∧ ∀ id, id < hp.next → (hp.new (.rw 1 [.str [111, 112, 101, 110]])).get id = hp.get id := ⟨by simp [Heap.new], fun id hid => by
                have : hp.next ≠ id := by omega
                simp [Heap.get, Heap.new, this]⟩
              have hzo : zerosA Tryz.prog 167 (.int .i64 (cn : Int)) = some (List.replicate cn (.str [])) := by
                have hm : ((cn : Int) ≤ (most : Int)) := by unfold most; omega
                simp only [zerosA, ty_el167, ty_zero9]
                rw [if_pos ⟨by omega, hm, rfl⟩]
                simp
              have hso : ∀ v ∈ List.replicate cn (AV.str []), v.cells.length = 1 := fun v hv => by rw [List.eq_of_mem_replicate hv]; rfl
              have hlo : [AV.str [111, 112, 101, 110]].length + (List.replicate cn (AV.str [])).length ≤ most := by rw [List.length_replicate]; unfold most; simp; omega
              clear hB1 hB2 hB3
              repeat' (first | (apply WO1.rowB (e := 9) (sz := 1); exact Z2; exact Z2; exact Z1; exact rfl; simp only [pM, pN, List.length_cons, List.length_nil]) | (apply WO1.appendZ (t := 167) (u := 3) (e := 9) (ik := .i64) (sz := 1) (tl := []) (b := hp.next) (h0 := hp) (hb := hBo) (hx := hXo) (hz := hzo); (focus (first | exact Z2 | exact Z1)); exact rfl; exact Z2; exact Z2; exact Z2; (focus (exact ty_row167)); (focus (exact hso)); (focus (exact hlo)); (intro v' h' hB' ho' hX'; simp only [pM, pN])) | refine go1 ?_ | (apply U6; exact Z1; exact Z1; (focus (simp only [List.nil_append, List.append_nil]; first | exact k159 _ | exact k160 _)); simp only [pM, pN, rR, rP]) | refine go2 (fun hh => ?_) (fun hh => ?_) | fail)
              have hx1 : HExt hp h' := hX'
              have hrow : TxtV h' v' ((fOpen cn).map formS) := by
                rw [opens_at]
                rcases hB' with ⟨_, q⟩ | ⟨id, q1, q2, _, q4, _⟩
                · simp at q
                · refine .inr ⟨id, ?_, q4, ?_, ?_⟩
                  · rw [q1]; simp
                  · rw [q2]; simp
                  · simp [maxL]; omega
              have hc8' := C158 c hc8 hc0 hc1 hc3 hc4 l v' (fOpen cn) h' (by omega) (by unfold fOpen wOpen; intro w hw; simp at hw; subst hw; decide) hrow
              unfold ClR numsR at hc8'
              obtain ⟨r, hcl, hq2, hqx2, hr⟩ := hc8'
              have hxq : HExt hp hq2 := HExt.trans hx1 hqx2
              have hx2 : HExt h hq2 := HExt.trans hX hxq
              have HX2 := Lib.hid hx2
              clear hBo hXo hzo hso hlo hrow hX'
              cases hm : matchF (spL 32 l) (fOpen cn) with
              | none =>
                rw [hm] at hr hst
                obtain ⟨u, rfl⟩ := hr
                have HNN := Lib.hid (HNONE.out hst)
                clear hm hst hqx2 hX hx2 hx1 hxq hB'
                repeat' (first | (simp only [tP, bP, eP, true_and]) | refine go1 ?_ | (apply U6; exact Z1; exact Z1; (focus (simp only [List.nil_append, List.append_nil]; first | exact hcl)); simp only [pM, pN, rR, rP]) | refine go2 (fun hh => ?_) (fun hh => ?_) | fail)
                exact HR.out _ _ HX2.out HNN.out
              | some ns =>
                rw [hm] at hr hst
                subst hr
                obtain ⟨hns, hnl⟩ := match_small hm
                have hnl2 : ns.length = cn := by rw [hnl]; unfold fOpen; simp
                have hisl := ints_sl ns (by unfold maxL; omega)
                have hison := sl_out hisl
                have hisc := (slV_is hisl).1.cells
                have hist := (slV_is hisl).1.tup
                simp only [AV.cells] at hisc
                simp only [isTuple] at hist
                have hst : stepP g l = some ⟨g.hours, g.rooms, g.fans, ns, g.hands⟩ := hst
                have HFN := Lib.hid (fold_next HL.out HFO.out hst)
                have HSN := Lib.hid (stepP_small HSM.out hst)
                have HTR2 := Lib.hid (HTR.out.keep hxq)
                have HISL := Lib.hid hisl
                have hcn2 : ns.length ≤ 600 := by omega
                have HCN2 := Lib.hid hcn2
                clear hm hst hqx2 hx2 hx1 hxq hns hnl hnl2 hisl hB' hcn2
                generalize hvn : slN (intsE ns) = van2 at *
                have HVN := Lib.hid hvn.symm
                clear hvn
                repeat' (first | refine goS ?_ | (apply U6; exact Z1; exact Z1; (focus (simp only [List.nil_append, List.append_nil]; first | exact hcl)); simp only [pM, pN, rR, rP]) | refine go2 (fun hh => ?_) (fun hh => ?_) | fail)
                all_goals refine contV_mk (by first | assumption | exact HLT0.out) (by simp only [keepE, and_true, and_self, go_sem, *, Nat.reduceLT, Int.reduceEq, Int.reduceBEq, Int.reduceLE, Int.reduceLT, Nat.reduceAdd, Nat.reduceBEq, Nat.reduceEqDiff, reduceIte, Nat.reduceLeDiff, Nat.reduceMul, Nat.reduceSub, reduceCtorEq]) (by simp only [keepL, and_true, and_self, go_sem, *, Nat.reduceLT, Int.reduceEq, Int.reduceBEq, Int.reduceLE, Int.reduceLT, Nat.reduceAdd, Nat.reduceBEq, Nat.reduceEqDiff, reduceIte, Nat.reduceLeDiff, Nat.reduceMul, Nat.reduceSub, reduceCtorEq]) ?_
                all_goals refine ⟨⟨g.hours, g.rooms, g.fans, ns, g.hands⟩, u1, u2, u3, van2, ?_, ?_, HFN.out, HSN.out, HTR2.out, HISL.out, HX2.out, ?_, ?_, HVN.out⟩
                all_goals first | exact Z2 | skip
                · have := HGL.out
                  have := HCN2.out
                  simp only
                  omega
                · have := HGL3.out
                  simp only
                  omega
            · have hwq3 : (wd == ([111, 112, 101, 110] : List UInt8)) = false := by rw [beq_eq_false_iff_ne]; exact e3
              have hst := hsh e1 e2 e3
              have hc8' := C158 c hc8 hc0 hc1 hc3 hc4 l (.vslice [.str [104, 97, 110, 100], .str [], .str []]) fHand hp (by omega) (by unfold fHand wHand; intro w hw; simp at hw; subst hw; decide) (.inl rfl)
              unfold ClR numsR at hc8'
              obtain ⟨r, hcl, hq2, hqx2, hr⟩ := hc8'
              have hx2 : HExt h hq2 := HExt.trans hX hqx2
              have HX2 := Lib.hid hx2
              clear hsr hsf hso hsh e1 e2 e3
              cases hm : matchF (spL 32 l) fHand with
              | none =>
                rw [hm] at hr hst
                obtain ⟨u, rfl⟩ := hr
                have HNN := Lib.hid (HNONE.out hst)
                clear hm hst hqx2 hX hx2 hB1 hB2 hB3
                repeat' (first | (simp only [tP, bP, eP, true_and]) | refine go1 ?_ | (apply U6; exact Z1; exact Z1; (focus (simp only [List.nil_append, List.append_nil]; first | exact k159 _ | exact hcl)); simp only [pM, pN, rR, rP]) | refine go2 (fun hh => ?_) (fun hh => ?_) | fail)
                exact HR.out _ _ HX2.out HNN.out
              | some ns =>
                rw [hm] at hr hst
                subst hr
                obtain ⟨hns, hnl⟩ := match_small hm
                obtain ⟨a0, a1, rfl⟩ := nums_2 hnl
                have hisl := ints_sl [a0, a1] (by unfold maxL; simp)
                have i0 : ∀ H, indexAddrV Tryz.prog H 24 (slN (intsE [a0, a1])) (.int .i64 0) = some (.vptr [.int .i64 a0]) := fun H => ints_idx hisl (k := 0) rfl H
                have i1 : ∀ H, indexAddrV Tryz.prog H 24 (slN (intsE [a0, a1])) (.int .i64 1) = some (.vptr [.int .i64 a1]) := fun H => ints_idx hisl (k := 1) rfl H
                have hison := sl_out hisl
                have hst : stepP g l = some ⟨g.hours, g.rooms, g.fans, g.op, g.hands ++ [⟨a0, a1⟩]⟩ := hst
                have HFN := Lib.hid (fold_next HL.out HFO.out hst)
                have HSN := Lib.hid (stepP_small HSM.out hst)
                replace hB3 := hB3.keep hqx2
                replace hX : h.next ≤ hq2.next ∧ ∀ id, id < h.next → hq2.get id = h.get id := hx2
                have HTR2 := Lib.hid (HTR.out.keep hqx2)
                have hll : g.hands.length + 1 ≤ most := by have := HGL.out.2.2.1; have := HKB.out; unfold most; omega
                clear hm hst hqx2 hx2 hns hnl hisl hB1 hB2
                generalize slN (intsE [a0, a1]) = van2 at *
                repeat' (first | (apply W.drawQ (id := 14) (l1 := [0, 1, 2, 3, 4, 5, 6, 7, 8, 9, 10, 11, 12, 13, 14, 15, 16, 17, 18, 19]) (l2 := [20, 21, 22]); kernel_rfl; kernel_rfl; kernel_rfl; exact Z4) | (apply W.drawQ (id := 17) (l1 := [0, 1, 2, 3, 4, 5, 6, 7, 8, 9]) (l2 := [10, 11, 12]); kernel_rfl; kernel_rfl; kernel_rfl; exact Z4) | (apply W.drawQ (id := 11) (l1 := [0, 1, 2, 3, 4, 5, 6, 7, 8, 9]) (l2 := [10, 11, 12]); kernel_rfl; kernel_rfl; kernel_rfl; exact Z4) | (apply WO1.appendX (t := 25) (u := 25) (e := 106) (e' := 106) (sz := 2) (tl := []) (b := h.next) (h0 := h) (hb := hB3) (hx := hX); exact Z1; exact rfl; exact Z2; exact Z2; exact Z2; (focus (exact ty_row25)); exact Z1; (focus (intro v hv; simp at hv; subst hv; rfl)); (focus (simp only [List.length_map, List.length_cons, List.length_nil]; exact hll)); (focus (simp)); (intro v' h' hB' ho' hK' hE' hX'; have hcc' := hB'.blt.cells; have htt' := hB'.blt.tup; simp only [AV.cells] at hcc'; simp only [isTuple] at htt'; simp only [pM, pN])) | refine go1 ?_ | (apply U6; exact Z1; exact Z1; (focus (simp only [List.nil_append, List.append_nil]; first | exact k159 _ | exact hcl)); simp only [pM, pN, rR, rP]) | refine go2 (fun hh => ?_) (fun hh => ?_) | fail)
                all_goals refine contV_mk (by first | assumption | exact HLT0.out) (by simp only [keepE, and_true, and_self, go_sem, *, Nat.reduceLT, Int.reduceEq, Int.reduceBEq, Int.reduceLE, Int.reduceLT, Nat.reduceAdd, Nat.reduceBEq, Nat.reduceEqDiff, reduceIte, Nat.reduceLeDiff, Nat.reduceMul, Nat.reduceSub, reduceCtorEq]) (by simp only [keepL, and_true, and_self, go_sem, *, Nat.reduceLT, Int.reduceEq, Int.reduceBEq, Int.reduceLE, Int.reduceLT, Nat.reduceAdd, Nat.reduceBEq, Nat.reduceEqDiff, reduceIte, Nat.reduceLeDiff, Nat.reduceMul, Nat.reduceSub, reduceCtorEq]) ?_
                all_goals refine ⟨⟨g.hours, g.rooms, g.fans, g.op, g.hands ++ [⟨a0, a1⟩]⟩, u1, u2, v', oa, ?_, ?_, HFN.out, HSN.out, ?_, HOA.out, hX', ?_, ?_, HOAN.out⟩
                all_goals first | exact Z2 | skip
                · have := HTR2.out.three hB' hK' hE'
                  rw [List.map_append]
                  exact this
                · have := HGL.out
                  simp only [List.length_append, List.length_cons, List.length_nil]
                  omega
                · have := HGL3.out
                  simp only [List.length_append, List.length_cons, List.length_nil]
                  omega
      · have hd0 : decide ((k : Int) < (((restP s).length : Nat) : Int)) = false := by simpa using hlt
        obtain rfl : k = (restP s).length := by omega
        have hB1 := hTr.b1
        have hB2 := hTr.b2
        have hB3 := hTr.b3
        obtain ⟨q1, q2, q3⟩ := hB1.parts
        obtain ⟨q4, q5, q6⟩ := hB2.parts
        obtain ⟨q7, q8, q9⟩ := hB3.parts
        have q10 := sl_out hoa
        have q11 := (slV_is hoa).1.cells
        have q12 := (slV_is hoa).1.tup
        simp only [AV.cells] at q2 q5 q8 q11
        simp only [isTuple] at q3 q6 q9 q12
        rw [List.take_length] at hfo
        have hrb : readP s = if textH g = s then some g else none := by rw [HRB.out, hfo]
        have hrl2 : (restP s).length ≤ 500 := by have := HRL.out; have := HL1.out; omega
        obtain ⟨gl1, gl2, gl3, gl4⟩ := hgl
        have hrk : g.rooms.length + g.fans.length + g.hands.length ≤ (restP s).length := hgl3
        have hok : okT g = true := by
          unfold okT
          simp only [Bool.and_eq_true, decide_eq_true_eq]
          exact ⟨⟨hsm, by omega⟩, gl4⟩
        have hs1 : SeeV hp rmC u1 g.rooms := SeeV.blt hB1.blt (by unfold maxL; omega)
        have hs2 : SeeV hp faC u2 g.fans := SeeV.blt hB2.blt (by unfold maxL; omega)
        have hs3 : SeeV hp intC oa g.op := SeeV.of hoa hp
        have hs4 : SeeV hp haC u3 g.hands := SeeV.blt hB3.blt (by unfold maxL; omega)
        have k110 := K110 (X := dX c) hc9 hs1 hs2 hs3 hs4 hok
        have HOAN := Lib.hid hoaN
        clear hoaN
        by_cases hts : textH g = s
        · rw [if_pos hts] at hrb
          have hq : (textH g == s) = true := by simpa using hts
          have k157 := fun h => C157 c hc1 true s h
          simp only [sureC, if_true] at k157
          obtain ⟨z1, y1, y2, y3, e1, p1⟩ := hB1.freeze
          have hB2' := hB2.afterFrz y3 e1 p1 hTr.s12.symm
          have hB3' := hB3.afterFrz y3 e1 p1 hTr.s13.symm
          obtain ⟨z2, y4, y5, y6, e2, p2⟩ := hB2'.freeze
          have hB3'' := hB3'.afterFrz y6 e2 p2 hTr.s23.symm
          obtain ⟨z3, y7, y8, y9, e3, p3⟩ := hB3''.freeze
          have y10 : ∀ H, frz1 H oa = some (slN (intsE g.op), H) := fun H => by
            rw [(slV_is hoa).1.frz1]
            have := HOAN.out
            rw [this]
          have hx3 : HExt h z3 := ⟨by rw [e3, e2, e1]; exact hX.1, fun id hid => by rw [p3 id hid, p2 id hid, p1 id hid]; exact hX.2 id hid⟩
          have HX3 := Lib.hid hx3
          have HRB2 := Lib.hid hrb
          clear hs1 hs2 hs3 hs4 hB1 hB2 hB3 hB2' hB3' hB3'' p1 p2 p3 hx3 hrb hTr hX hts hoa hsm hfo
          repeat' (first | refine goS ?_ | (apply U6; exact Z1; exact Z1; (focus (simp only [List.nil_append, List.append_nil]; first | exact k110 | exact k157 _)); simp only [pM, pN, rR, rP]) | refine go2 (fun hh => ?_) (fun hh => ?_) | fail)
          all_goals simp only [resV_def (X := dX c) Tryz.func113, Tryz.results113, resultsV, resultV, go_sem, *, Nat.reduceLT, Int.reduceEq, Int.reduceBEq, Int.reduceLE, Int.reduceLT, Nat.reduceAdd, Nat.reduceBEq, Nat.reduceEqDiff, reduceIte, Nat.reduceLeDiff, Nat.reduceMul, Nat.reduceSub, reduceCtorEq, frzRes, dFrz, frzCells, isRet_ret, tupleOf]
          exact HR2.out _ _ HX3.out HRB2.out
        · rw [if_neg hts] at hrb
          have hq : (textH g == s) = false := by simpa using hts
          have k157 := fun h => C157 c hc1 false s h
          simp only [sureC, Bool.false_eq_true, if_false] at k157
          have HX3 := Lib.hid hX
          have HRB2 := Lib.hid hrb
          clear hs1 hs2 hs3 hs4 hB1 hB2 hB3 hrb hTr hX hts hoa hsm hfo
          repeat' (first | (simp only [tP, bP, eP, true_and]) | refine go1 ?_ | (apply U6; exact Z1; exact Z1; (focus (simp only [List.nil_append, List.append_nil]; first | exact k110 | exact k157 _)); simp only [pM, pN, rR, rP]) | refine go2 (fun hh => ?_) (fun hh => ?_) | fail)
          exact HR.out _ _ HX3.out HRB2.out
  · have hge : decide (((spL 10 s).length : Int) ≥ 3) = false := by simp; omega
    have k157 := fun h => C157 c hc1 false s h
    simp only [sureC, Bool.false_eq_true, if_false] at k157
    have HNN := Lib.hid (read_few h3)
    have HR : ∀ u, readR s h (.pan (.iface 207 (.agg [.str u])) h none) := fun u => readR_pan (HExt.refl h) HNN.out
    generalize (spL 10 s).length = L0 at *
    clear h3 hl1 hl2
    refine ClR.walk (c := _) hc Tryz.func113 rfl (by kernel_rfl) rfl readR_fail ?_
    simp only [entryEnv, Nat.reduceAdd]
    repeat' (first | (simp only [tP, bP, eP, true_and]) | refine go1 ?_ | (apply U6; exact Z1; exact Z1; (focus (simp only [List.nil_append, List.append_nil]; first | exact k156 _ | exact k157 _)); simp only [pM, pN, rR, rP]) | refine go2 (fun hh => ?_) (fun hh => ?_) | fail)
    exact HR _
end Go.AM
set_option linter.unusedSectionVars false
set_option linter.unusedVariables false
set_option linter.unusedSimpArgs false
set_option maxRecDepth 100000
namespace Go.AM
open Go Go.Proofs
variable [Keep]
attribute [local irreducible] W WO WO1 WD WQ WT thenQ blockQ endR isRet retK Cl ClR
open Go.TX (Hs readP textH)
attribute [local irreducible] DefR
theorem eql_nn : binV Tryz.prog .eql 20 true .niliface .niliface = some (.bool true) := by kernel_rfl
theorem eql_in (t : TypeId) (v : AV) : binV Tryz.prog .eql 20 true (.iface t v) .niliface = some (.bool false) := by kernel_rfl
theorem as_207n (v : AV) : assertV Tryz.prog (.iface 207 v) 205 true = some (.tuple [.agg [.int .i64 0], .bool false]) := by
  simp [assertV, Tryz.underlying205, ty_zero205]
theorem as_207 (v : AV) : assertV Tryz.prog (.iface 207 v) 207 true = some (.tuple [v, .bool true]) := by
  simp [assertV, Tryz.underlying207]
section
variable (c : FuncId → Option (List AV → Heap → Option (AV × Heap)))
theorem D155n (b n : Nat) (m : Mp Blk) (Q : Heap → Option AV → Prop) (q : Q ⟨n, m⟩ none) : DefR (dX c) [(.func (.func 155) [] [.ptr b 0], [])] ⟨n, m⟩ none Q := by
  have q := Lib.hid q
  have hq1 := eql_nn
  have hq2 := eql_in
  refine DefR.cons (g := 155) (X := dX c) Tryz.func155 (by kernel_rfl) rfl (by kernel_rfl) rfl ?_
  simp only [entryEnv, Nat.reduceAdd, List.nil_append, List.append_nil, Option.map_none]
  repeat' (first | (apply U5; exact rfl; (focus (intro cl rd; simp only [go_sem, *, Nat.reduceLT, Int.reduceEq, Int.reduceBEq, Int.reduceLE, Int.reduceLT, Nat.reduceAdd, Nat.reduceBEq, Nat.reduceEqDiff, reduceIte, Nat.reduceLeDiff, Nat.reduceMul, Nat.reduceSub, reduceCtorEq, efV, Fr.callOp, Fr.builtinE, Fr.recoverE, reduceIte, Bool.false_eq_true]; with_reducible rfl)); simp only [pM, pN]) | (simp only [endDef_norm]) | refine go1 ?_ | refine go2 (fun hh => ?_) (fun hh => ?_) | fail)
  refine DefR.nil ?_
  exact q.out
theorem D155t (b n : Nat) (m : Mp Blk) (u : List UInt8) (z : Int) (Q : Heap → Option AV → Prop) (hg : m.get b = some (.var [.int .i64 z])) (q : ∀ m', (∀ id, id ≠ b → m'.get id = m.get id) → m'.get b = some (.var [.int .i64 4]) → Q ⟨n, m'⟩ none) :
    DefR (dX c) [(.func (.func 155) [] [.ptr b 0], [])] ⟨n, m⟩ (some (.iface 207 (.agg [.str u]))) Q := by
  have q := Lib.hid q
  have hq1 := eql_nn
  have hq2 := eql_in
  have hq3 := as_207n
  have hq4 := as_207
  refine DefR.cons (g := 155) (X := dX c) Tryz.func155 (by kernel_rfl) rfl (by kernel_rfl) rfl ?_
  simp only [entryEnv, Nat.reduceAdd, List.nil_append, List.append_nil, Option.map_some]
  repeat' (first | (apply U5; exact rfl; (focus (intro cl rd; simp only [go_sem, *, Nat.reduceLT, Int.reduceEq, Int.reduceBEq, Int.reduceLE, Int.reduceLT, Nat.reduceAdd, Nat.reduceBEq, Nat.reduceEqDiff, reduceIte, Nat.reduceLeDiff, Nat.reduceMul, Nat.reduceSub, reduceCtorEq, efV, Fr.callOp, Fr.builtinE, Fr.recoverE, reduceIte, Bool.false_eq_true]; with_reducible rfl)); simp only [pM, pN]) | (simp only [endDef_norm]) | refine go1 ?_ | refine go2 (fun hh => ?_) (fun hh => ?_) | fail)
  refine DefR.nil ?_
  refine q.out _ (fun id hid => ?_) ?_
  · have e1 : (b == id) = false := by rw [beq_eq_false_iff_ne]; exact Ne.symm hid
    simp only [go_sem, *, Nat.reduceLT, Int.reduceEq, Int.reduceBEq, Int.reduceLE, Int.reduceLT, Nat.reduceAdd, Nat.reduceBEq, Nat.reduceEqDiff, reduceIte, Nat.reduceLeDiff, Nat.reduceMul, Nat.reduceSub, reduceCtorEq]
  · simp only [go_sem, *, Nat.reduceLT, Int.reduceEq, Int.reduceBEq, Int.reduceLE, Int.reduceLT, Nat.reduceAdd, Nat.reduceBEq, Nat.reduceEqDiff, reduceIte, Nat.reduceLeDiff, Nat.reduceMul, Nat.reduceSub, reduceCtorEq]
def tryR (h : Heap) (h1 : Heap) (z : Int) (r : COut) : Prop := ∃ h2, r = .ret (.int .i64 z) h2 none ∧ h2.next = h1.next ∧ ∀ id, id ≠ h.next → h2.get id = h1.get id
theorem C111n (hc : c 111 = none) (g : FuncId) (caps : List AV) (hn : Nat) (hm : Mp Blk) (zn : Nat) (zm : Mp Blk) (z : Int) (hcl : Cl (dX c) g caps ⟨hn + 1, hm.set hn (.var [.int .i64 0])⟩ (.ret (.tuple []) ⟨zn, zm⟩ none)) (hg : zm.get hn = some (.var [.int .i64 z])) :
    ClR (dX c) 111 [.func (.func g) [] caps] ⟨hn, hm⟩ (tryR ⟨hn, hm⟩ ⟨zn, zm⟩ 0) := by
  refine ClR.walkD (c := _) hc Tryz.func111 rfl (by kernel_rfl) rfl ?_
  simp only [entryEnv, Nat.reduceAdd]
  repeat' (first | (apply U5; exact rfl; (focus (intro cl rd; simp only [go_sem, *, Nat.reduceLT, Int.reduceEq, Int.reduceBEq, Int.reduceLE, Int.reduceLT, Nat.reduceAdd, Nat.reduceBEq, Nat.reduceEqDiff, reduceIte, Nat.reduceLeDiff, Nat.reduceMul, Nat.reduceSub, reduceCtorEq, efV, Fr.deferE]; with_reducible rfl)); simp only [pM, pN]) | (refine Y7 ?_; simp only [endD_ret]) | refine go1 ?_ | (apply U6; exact Z1; exact Z1; (focus (simp only [List.nil_append, List.append_nil]; first | exact hcl)); simp only [pM, pN, rR, rP]) | refine go2 (fun hh => ?_) (fun hh => ?_) | fail)
  refine D155n c _ _ _ _ ?_
  refine afterD_none.2 ?_
  simp only [resV_def (X := dX c) Tryz.func111, Tryz.results111, resultsV, resultV, go_sem, *, Nat.reduceLT, Int.reduceEq, Int.reduceBEq, Int.reduceLE, Int.reduceLT, Nat.reduceAdd, Nat.reduceBEq, Nat.reduceEqDiff, reduceIte, Nat.reduceLeDiff, Nat.reduceMul, Nat.reduceSub, reduceCtorEq, frzRes, dFrz, frzCells, isRet_ret, tupleOf]
  refine ⟨_, rfl, rfl, fun id hid => ?_⟩
  have e1 : (hn == id) = false := by rw [beq_eq_false_iff_ne]; exact Ne.symm hid
  simp only [go_sem, *, Nat.reduceLT, Int.reduceEq, Int.reduceBEq, Int.reduceLE, Int.reduceLT, Nat.reduceAdd, Nat.reduceBEq, Nat.reduceEqDiff, reduceIte, Nat.reduceLeDiff, Nat.reduceMul, Nat.reduceSub, reduceCtorEq]
theorem C111t (hc : c 111 = none) (g : FuncId) (caps : List AV) (hn : Nat) (hm : Mp Blk) (zn : Nat) (zm : Mp Blk) (u : List UInt8) (z : Int) (hcl : Cl (dX c) g caps ⟨hn + 1, hm.set hn (.var [.int .i64 0])⟩ (.pan (.iface 207 (.agg [.str u])) ⟨zn, zm⟩ none)) (hg : zm.get hn = some (.var [.int .i64 z])) :
    ClR (dX c) 111 [.func (.func g) [] caps] ⟨hn, hm⟩ (tryR ⟨hn, hm⟩ ⟨zn, zm⟩ 4) := by
  refine ClR.walkD (c := _) hc Tryz.func111 rfl (by kernel_rfl) rfl ?_
  simp only [entryEnv, Nat.reduceAdd]
  repeat' (first | (apply U5; exact rfl; (focus (intro cl rd; simp only [go_sem, *, Nat.reduceLT, Int.reduceEq, Int.reduceBEq, Int.reduceLE, Int.reduceLT, Nat.reduceAdd, Nat.reduceBEq, Nat.reduceEqDiff, reduceIte, Nat.reduceLeDiff, Nat.reduceMul, Nat.reduceSub, reduceCtorEq, efV, Fr.deferE]; with_reducible rfl)); simp only [pM, pN]) | (simp only [endD_pan]) | refine go1 ?_ | (apply U6; exact Z1; exact Z1; (focus (simp only [List.nil_append, List.append_nil]; first | exact hcl)); simp only [pM, pN, rR, rP]) | refine go2 (fun hh => ?_) (fun hh => ?_) | fail)
  refine D155t c _ _ _ _ _ _ hg fun m' q1 q2 => afterD_none.2 ?_
  simp only [resV_def (X := dX c) Tryz.func111, Tryz.results111, resultsV, resultV, go_sem, *, Nat.reduceLT, Int.reduceEq, Int.reduceBEq, Int.reduceLE, Int.reduceLT, Nat.reduceAdd, Nat.reduceBEq, Nat.reduceEqDiff, reduceIte, Nat.reduceLeDiff, Nat.reduceMul, Nat.reduceSub, reduceCtorEq, frzRes, dFrz, frzCells, isRet_ret, tupleOf]
  exact ⟨_, rfl, rfl, q1⟩
end
def zeroH : AV := .agg [.int .i64 0, .nilslice, .nilslice, .nilslice, .nilslice]
def rdV41 (s : List UInt8) : AV :=
  if 500 < s.length then .tuple [zeroH, .int .i64 3]
  else match readP s with
    | none => .tuple [zeroH, .int .i64 4]
    | some m => if houseB m = true then .tuple [hsE m, .int .i64 0] else .tuple [zeroH, .int .i64 2]
def sp41 : List AV → Option AV
  | [.str s] => if decide (s.length ≤ 600) = true then some (rdV41 s) else none
  | _ => none
theorem hsE_pur (m : Hs) : (hsE m).pur = true := by
  have h1 : ∀ {α : Type} (c : Cd α) (l : List α), (slN (l.map c.enc)).pur = true := fun c l => (slN_is _).pur (enc_pur c l)
  simp only [hsE, AV.pur, AV.purL, h1, Bool.true_and, Bool.and_true]
  exact h1 intC m.op
theorem p41 : ∀ args v, sp41 args = some v → v.pur = true := by
  intro args v h
  unfold sp41 at h
  split at h
  · split at h
    · cases h
      unfold rdV41
      split
      · rfl
      · split
        · rfl
        · split
          · simp only [AV.pur, AV.purL, hsE_pur, Bool.and_self]
          · rfl
    · cases h
  · cases h
theorem rd_long {s : List UInt8} (h : 500 < s.length) : rdV41 s = .tuple [zeroH, .int .i64 3] := by unfold rdV41; rw [if_pos h]
theorem rd_none {s : List UInt8} (h : ¬ 500 < s.length) (k : readP s = none) : rdV41 s = .tuple [zeroH, .int .i64 4] := by unfold rdV41; rw [if_neg h, k]
theorem rd_some {s : List UInt8} {m : Hs} (h : ¬ 500 < s.length) (k : readP s = some m) (q : houseB m = true) : rdV41 s = .tuple [hsE m, .int .i64 0] := by unfold rdV41; rw [if_neg h, k]; simp only [q, if_true]
theorem rd_bad {s : List UInt8} {m : Hs} (h : ¬ 500 < s.length) (k : readP s = some m) (q : houseB m = false) : rdV41 s = .tuple [zeroH, .int .i64 2] := by unfold rdV41; rw [if_neg h, k]; simp only [q, Bool.false_eq_true, if_false]
noncomputable def cZD : FuncId → Option (List AV → Heap → Option (AV × Heap))
  | 151 => some (pureFn sp151)
  | 154 => some (atOnce spItoa)
  | 156 => some (atOnce spSplit)
  | 159 => some (pureFn sp159)
  | 160 => some (atOnce spCount)
  | 110 => some (flatFnD sp110)
  | 82 => some (flatFnD sp82)
  | _ => none
theorem cZD_sound (hT : TabK Tryz.prog) : Sound (dX cZD) := dX_sound (fun f g h => by
  unfold cZD at h
  split at h
  · cases h; exact F151
  · cases h; exact F154 hT
  · cases h; exact F156
  · cases h; exact F159
  · cases h; exact F160
  · cases h; exact F110 hT
  · cases h; exact F82D
  · cases h)
theorem K82 {X : Ctx} (hX : X.intr 82 = some (flatFnD sp82)) {ra fa oa ha : AV} {m : Hs} {h : Heap} (h1 : SeeV h rmC ra m.rooms) (h2 : SeeV h faC fa m.fans) (h3 : SeeV h intC oa m.op) (h4 : SeeV h haC ha m.hands) :
    Cl X 82 [.agg [.int .i64 m.hours, ra, fa, oa, ha]] h (.ret (.bool (houseB m)) h none) := by
  obtain ⟨ra', v1, s1⟩ := h1
  obtain ⟨fa', v2, s2⟩ := h2
  obtain ⟨oa', v3, s3⟩ := h3
  obtain ⟨ha', v4, s4⟩ := h4
  exact Cl.intr hX (by simp only [flatFnD, viewDs, viewD_hs v1 v2 v3 v4, sp82, hsV, s1, s2, s3, s4, Option.map_some])
theorem slN_parts {α : Type} (c : Cd α) (l : List α) : (∀ H, frz1 H (slN (l.map c.enc)) = some (slN (l.map c.enc), H)) ∧ outV (some (slN (l.map c.enc))) = some (slN (l.map c.enc)) ∧ isTuple (slN (l.map c.enc)) = false ∧ (slN (l.map c.enc)).cells = [slN (l.map c.enc)] := by
  cases l with
  | nil => exact ⟨fun _ => rfl, rfl, rfl, rfl⟩
  | cons a r => exact ⟨fun _ => rfl, rfl, rfl, rfl⟩
theorem read_lens {s : List UInt8} {m : Hs} (h : readP s = some m) (hs : s.length ≤ 500) : m.rooms.length ≤ 60000 ∧ m.fans.length ≤ 60000 ∧ m.op.length ≤ 60000 ∧ m.hands.length ≤ 60000 := by
  obtain ⟨e, hsm⟩ := TX.readP_is h
  have h1 := TX.text_len_eq m
  rw [e] at h1
  have h2 : ((TX.allL m).map fun l => l.length + 1).sum = ((TX.houseL m).length + 1) + ((m.rooms.map TX.roomL).map fun l => l.length + 1).sum + ((m.fans.map TX.fanL).map fun l => l.length + 1).sum + ((TX.openL m).length + 1) + ((m.hands.map TX.handL).map fun l => l.length + 1).sum + ((TX.endL (TX.ck (TX.linesH m) % 107)).length + 1) := by
    unfold TX.allL
    simp only [TX.linesH, List.map_append, List.map_cons, List.sum_append, List.sum_cons, List.map_nil, List.sum_nil]
    omega
  have hsum : ∀ L : List (List UInt8), L.length ≤ (L.map fun l => l.length + 1).sum := by
    intro L
    induction L with
    | nil => exact Nat.zero_le _
    | cons a L ih => simp only [List.map_cons, List.sum_cons, List.length_cons]; omega
  have h3 := hsum (m.rooms.map TX.roomL)
  have h4 := hsum (m.fans.map TX.fanL)
  have h5 := hsum (m.hands.map TX.handL)
  have h6 : m.op.length ≤ (TX.openL m).length := by
    unfold TX.openL TX.lineW
    rw [List.length_append]
    have : ∀ l : List (List UInt8), l.length ≤ (l.flatMap fun x => 32 :: x).length := by
      intro l
      induction l with
      | nil => exact Nat.zero_le _
      | cons a l ih => simp only [List.flatMap_cons, List.length_append, List.length_cons]; omega
    have := this (m.op.map itoaF)
    rw [List.length_map] at this
    omega
  rw [List.length_map] at h3 h4 h5
  omega
attribute [local irreducible] readP readR houseB textH rdV41 tryR
set_option maxHeartbeats 4000000 in
theorem F41 (hT : TabK Tryz.prog) : IntrFn Tryz.prog 41 (pureFn sp41) := by
  refine pure_fn (X := dX cZD) (cZD_sound hT) p41 ?_
  intro args v h
  unfold sp41 at h
  split at h
  · rename_i s
    split at h
    · rename_i hs
      have h := Option.some.inj h
      subst h
      have hs : s.length ≤ 600 := by simpa using hs
      by_cases hlong : 500 < s.length
      · have hd : decide ((s.length : Int) > 500) = true := by simp only [decide_eq_true_eq]; omega
        rw [rd_long hlong]
        unfold zeroH
        clear hlong hs
        refine ClR.walk (c := _) rfl Tryz.func41 rfl (by kernel_rfl) rfl isRet_fail ?_
        simp only [entryEnv, Nat.reduceAdd, emptyHp]
        repeat' (first | refine goS ?_ | refine go2 (fun hh => ?_) (fun hh => ?_) | fail)
        simp only [resV_def (X := dX cZD) Tryz.func41, Tryz.results41, resultsV, resultV, go_sem, *, Nat.reduceLT, Int.reduceEq, Int.reduceBEq, Int.reduceLE, Int.reduceLT, Nat.reduceAdd, Nat.reduceBEq, Nat.reduceEqDiff, reduceIte, Nat.reduceLeDiff, Nat.reduceMul, Nat.reduceSub, reduceCtorEq, frzRes, dFrz, frzCells, isRet_ret, tupleOf]
      · have hd : decide ((s.length : Int) > 500) = false := by simp only [decide_eq_false_iff_not]; omega
        have hs5 : s.length ≤ 500 := by omega
        have hC : ∀ hn hm, ∃ r, Cl (dX cZD) 113 [.str s] ⟨hn, hm⟩ r ∧ ∃ zn zm, HExt ⟨hn, hm⟩ ⟨zn, zm⟩ ∧ match readP s with | some m => r = .ret (hsE m) ⟨zn, zm⟩ none | none => ∃ u, r = .pan (.iface 207 (.agg [.str u])) ⟨zn, zm⟩ none := by
          intro hn hm
          have := C113 cZD rfl rfl rfl rfl rfl rfl rfl rfl rfl rfl s ⟨hn, hm⟩ hs5
          unfold ClR readR at this
          obtain ⟨r, h1, ⟨zn, zm⟩, h2, h3⟩ := this
          exact ⟨r, h1, zn, zm, h2, h3⟩
        cases hrd : readP s with
        | none =>
          rw [rd_none hlong hrd]
          unfold zeroH
          obtain ⟨r, hcl, zn, zm, hx, hr⟩ := hC 3 ((((Mp.nil : Mp Blk).set 0 (.var [.str s])).set 1 (.var [.int .i64 0, .nilslice, .nilslice, .nilslice, .nilslice])).set 2 (.var [.int .i64 0]))
          rw [hrd] at hr
          obtain ⟨u, rfl⟩ := hr
          have g2 : zm.get 2 = some (.var [.int .i64 0]) := hx.2 2 (by simp)
          have h112 : Cl (dX cZD) 112 [.ptr 0 0, .ptr 1 0] ⟨3, (((Mp.nil : Mp Blk).set 0 (.var [.str s])).set 1 (.var [.int .i64 0, .nilslice, .nilslice, .nilslice, .nilslice])).set 2 (.var [.int .i64 0])⟩ (.pan (.iface 207 (.agg [.str u])) ⟨zn, zm⟩ none) := by
            refine ClR.cl ?_
            clear hC hrd hlong hs hx g2
            refine ClR.walk (c := _) rfl Tryz.func112 rfl (by kernel_rfl) rfl (fun e => by cases e) ?_
            simp only [entryEnv, Nat.reduceAdd]
            repeat' (first | (simp only [tP, bP, eP, true_and]) | refine go1 ?_ | (apply U6; exact Z1; exact Z1; (focus (simp only [List.nil_append, List.append_nil]; first | exact hcl)); simp only [pM, pN, rR, rP]) | refine go2 (fun hh => ?_) (fun hh => ?_) | fail)
            all_goals rfl
          have ht := C111t cZD rfl 112 [.ptr 0 0, .ptr 1 0] 2 _ zn zm u 0 h112 g2
          unfold ClR tryR at ht
          obtain ⟨r, hct, ⟨yn, ym⟩, rfl, hy1, hy2⟩ := ht
          have hz4 : ((4 : Int) != 0) = true := rfl
          clear hC hrd hlong hs hx g2 h112 hcl
          refine ClR.walk (c := _) rfl Tryz.func41 rfl (by kernel_rfl) rfl isRet_fail ?_
          simp only [entryEnv, Nat.reduceAdd, emptyHp]
          repeat' (first | refine goS ?_ | (apply U6; exact Z1; exact Z1; (focus (simp only [List.nil_append, List.append_nil]; first | exact hct)); simp only [pM, pN, rR, rP]) | refine go2 (fun hh => ?_) (fun hh => ?_) | fail)
          simp only [resV_def (X := dX cZD) Tryz.func41, Tryz.results41, resultsV, resultV, go_sem, *, Nat.reduceLT, Int.reduceEq, Int.reduceBEq, Int.reduceLE, Int.reduceLT, Nat.reduceAdd, Nat.reduceBEq, Nat.reduceEqDiff, reduceIte, Nat.reduceLeDiff, Nat.reduceMul, Nat.reduceSub, reduceCtorEq, frzRes, dFrz, frzCells, isRet_ret, tupleOf]
        | some m =>
          obtain ⟨r, hcl, zn, zm, hx, hr⟩ := hC 3 ((((Mp.nil : Mp Blk).set 0 (.var [.str s])).set 1 (.var [.int .i64 0, .nilslice, .nilslice, .nilslice, .nilslice])).set 2 (.var [.int .i64 0]))
          rw [hrd] at hr
          subst hr
          obtain ⟨m1, m2, m3, m4⟩ := read_lens hrd hs5
          have g1 : zm.get 1 = some (.var [.int .i64 0, .nilslice, .nilslice, .nilslice, .nilslice]) := hx.2 1 (by simp)
          have g2 : zm.get 2 = some (.var [.int .i64 0]) := hx.2 2 (by simp)
          obtain ⟨f1, o1, t1, c1⟩ := slN_parts rmC m.rooms
          obtain ⟨f2, o2, t2, c2⟩ := slN_parts faC m.fans
          obtain ⟨f3, o3, t3, c3⟩ := slN_parts intC m.op
          obtain ⟨f4, o4, t4, c4⟩ := slN_parts haC m.hands
          have s1 := slV_slN (c := rmC) (l := m.rooms) (by unfold maxL; omega)
          have s2 := slV_slN (c := faC) (l := m.fans) (by unfold maxL; omega)
          have s3 := slV_slN (c := intC) (l := m.op) (by unfold maxL; omega)
          have s4 := slV_slN (c := haC) (l := m.hands) (by unfold maxL; omega)
          have k82 := fun h => K82 (X := dX cZD) rfl (SeeV.of s1 h) (SeeV.of s2 h) (SeeV.of s3 h) (SeeV.of s4 h)
          unfold hsE at hcl
          change Cl (dX cZD) 113 [AV.str s] _ (COut.ret (AV.agg [AV.int IntKind.i64 m.hours, slN (m.rooms.map rmC.enc), slN (m.fans.map faC.enc), slN (m.op.map intC.enc), slN (m.hands.map haC.enc)]) ⟨zn, zm⟩ none) at hcl
          have hrv : rdV41 s = if houseB m = true then .tuple [.agg [.int .i64 m.hours, slN (m.rooms.map rmC.enc), slN (m.fans.map faC.enc), slN (m.op.map intC.enc), slN (m.hands.map haC.enc)], .int .i64 0] else .tuple [zeroH, .int .i64 2] := by
            cases q : houseB m with
            | true => rw [rd_some hlong hrd q]; rfl
            | false => rw [rd_bad hlong hrd q]; rfl
          rw [hrv]
          unfold zeroH
          simp only [AV.cells] at c1 c2 c3 c4
          simp only [isTuple] at t1 t2 t3 t4
          clear hC hrd hlong hs hx m1 m2 m3 m4 s1 s2 s3 s4 hrv
          generalize m.hours = mh at *
          generalize slN (m.rooms.map rmC.enc) = sa at *
          generalize slN (m.fans.map faC.enc) = sb at *
          generalize slN (m.op.map intC.enc) = sc at *
          generalize slN (m.hands.map haC.enc) = sd at *
          generalize houseB m = hb at *
          have h112 : ∃ ym, Cl (dX cZD) 112 [.ptr 0 0, .ptr 1 0] ⟨3, (((Mp.nil : Mp Blk).set 0 (.var [.str s])).set 1 (.var [.int .i64 0, .nilslice, .nilslice, .nilslice, .nilslice])).set 2 (.var [.int .i64 0])⟩ (.ret (.tuple []) ⟨zn, ym⟩ none) ∧ ym.get 2 = some (.var [.int .i64 0]) ∧ ym.get 1 = some (.var [.int .i64 mh, sa, sb, sc, sd]) := by
            refine ⟨zm.set 1 (.var [.int .i64 mh, sa, sb, sc, sd]), ?_, ?_, ?_⟩
            · refine ClR.cl ?_
              refine ClR.walk (c := _) rfl Tryz.func112 rfl (by kernel_rfl) rfl (fun e => by cases e) ?_
              simp only [entryEnv, Nat.reduceAdd]
              repeat' (first | refine goS ?_ | (apply U6; exact Z1; exact Z1; (focus (simp only [List.nil_append, List.append_nil]; first | exact hcl)); simp only [pM, pN, rR, rP]) | refine go2 (fun hh => ?_) (fun hh => ?_) | fail)
              all_goals simp only [resV_def (X := dX cZD) Tryz.func112, Tryz.results112, resultsV, resultV, go_sem, *, Nat.reduceLT, Int.reduceEq, Int.reduceBEq, Int.reduceLE, Int.reduceLT, Nat.reduceAdd, Nat.reduceBEq, Nat.reduceEqDiff, reduceIte, Nat.reduceLeDiff, Nat.reduceMul, Nat.reduceSub, reduceCtorEq, frzRes, dFrz, frzCells, isRet_ret, tupleOf]
              all_goals rfl
            · simp only [go_sem, *, Nat.reduceLT, Int.reduceEq, Int.reduceBEq, Int.reduceLE, Int.reduceLT, Nat.reduceAdd, Nat.reduceBEq, Nat.reduceEqDiff, reduceIte, Nat.reduceLeDiff, Nat.reduceMul, Nat.reduceSub, reduceCtorEq]
            · simp only [go_sem, *, Nat.reduceLT, Int.reduceEq, Int.reduceBEq, Int.reduceLE, Int.reduceLT, Nat.reduceAdd, Nat.reduceBEq, Nat.reduceEqDiff, reduceIte, Nat.reduceLeDiff, Nat.reduceMul, Nat.reduceSub, reduceCtorEq]
          obtain ⟨ym, h112, q2, q1⟩ := h112
          have ht := C111n cZD rfl 112 [.ptr 0 0, .ptr 1 0] 2 _ zn ym 0 h112 q2
          unfold ClR tryR at ht
          obtain ⟨r, hct, ⟨wn, wm⟩, rfl, hy1, hy2⟩ := ht
          have w1 : wm.get 1 = some (.var [.int .i64 mh, sa, sb, sc, sd]) := (hy2 1 (by simp)).trans q1
          have hz0 : ((0 : Int) != 0) = false := rfl
          clear h112 hcl g1 g2 q1 q2 hy1 hy2
          refine ClR.walk (c := _) rfl Tryz.func41 rfl (by kernel_rfl) rfl isRet_fail ?_
          simp only [entryEnv, Nat.reduceAdd, emptyHp]
          cases hb with
          | true =>
            repeat' (first | refine goS ?_ | (apply U6; exact Z1; exact Z1; (focus (simp only [List.nil_append, List.append_nil]; first | exact hct | exact k82 _)); simp only [pM, pN, rR, rP]) | refine go2 (fun hh => ?_) (fun hh => ?_) | fail)
            simp only [resV_def (X := dX cZD) Tryz.func41, Tryz.results41, resultsV, resultV, go_sem, *, Nat.reduceLT, Int.reduceEq, Int.reduceBEq, Int.reduceLE, Int.reduceLT, Nat.reduceAdd, Nat.reduceBEq, Nat.reduceEqDiff, reduceIte, Nat.reduceLeDiff, Nat.reduceMul, Nat.reduceSub, reduceCtorEq, frzRes, dFrz, frzCells, isRet_ret, tupleOf]
          | false =>
            repeat' (first | refine goS ?_ | (apply U6; exact Z1; exact Z1; (focus (simp only [List.nil_append, List.append_nil]; first | exact hct | exact k82 _)); simp only [pM, pN, rR, rP]) | refine go2 (fun hh => ?_) (fun hh => ?_) | fail)
            simp only [resV_def (X := dX cZD) Tryz.func41, Tryz.results41, resultsV, resultV, go_sem, *, Nat.reduceLT, Int.reduceEq, Int.reduceBEq, Int.reduceLE, Int.reduceLT, Nat.reduceAdd, Nat.reduceBEq, Nat.reduceEqDiff, reduceIte, Nat.reduceLeDiff, Nat.reduceMul, Nat.reduceSub, reduceCtorEq, frzRes, dFrz, frzCells, isRet_ret, tupleOf]
    · cases h
  · cases h
theorem K41 {X : Ctx} (hX : X.intr 41 = some (pureFn sp41)) (s : List UInt8) (hs : s.length ≤ 600) (h : Heap) : Cl X 41 [.str s] h (.ret (rdV41 s) h none) :=
  Cl.intr hX (by simp [pureFn, AV.pur, AV.purL, sp41, hs])
def prV40 (m : Hs) : AV := if houseB m = true then .tuple [.str (textH m), .int .i64 0] else .tuple [.str [], .int .i64 2]
def sp40 : List AV → Option AV
  | [x] => (hsV x).map prV40
  | _ => none
theorem p40 : ∀ args v, sp40 args = some v → v.flat = true := by
  intro args v h
  unfold sp40 at h
  split at h
  · simp only [Option.map_eq_some_iff] at h
    obtain ⟨m, _, rfl⟩ := h
    unfold prV40
    split <;> rfl
  · cases h
theorem w64_small {n : Int} (h1 : -4611686018427387904 ≤ n) (h2 : n ≤ 4611686018427387904) : w64 n = n := wrap_small h1 h2
structure HOk (m : Hs) : Prop where
  hours : 1 ≤ m.hours ∧ m.hours ≤ 4
  rooms : 1 ≤ m.rooms.length ∧ m.rooms.length ≤ 3
  fans : m.fans.length ≤ 4
  hands : 1 ≤ m.hands.length ∧ m.hands.length ≤ 4
  op : (m.op.length : Int) = m.hours
  room : ∀ r ∈ m.rooms, 0 ≤ r.lo ∧ r.lo ≤ r.hi ∧ r.hi ≤ 50 ∧ (0 ≤ r.mke ∧ r.mke ≤ 1000) ∧ (0 ≤ r.wt ∧ r.wt ≤ 4) ∧ (0 ≤ r.stt ∧ r.stt ≤ 50)
  fan : ∀ f ∈ m.fans, 0 ≤ f.room ∧ f.room < m.rooms.length ∧ 0 ≤ f.draws ∧ f.draws ≤ 50
  set : ∀ x ∈ m.op, 0 ≤ x ∧ x < 2 ^ m.rooms.length
  hand : ∀ x ∈ m.hands, (0 ≤ x.limit ∧ x.limit ≤ 2000) ∧ (0 ≤ x.most ∧ x.most ≤ 4)
theorem inB_is {x lo hi : Int} (h : inB x lo hi = true) : lo ≤ x ∧ x ≤ hi := by
  unfold inB at h
  simp only [Bool.and_eq_true, decide_eq_true_eq] at h
  omega
theorem house_ok {m : Hs} (h : houseB m = true) : HOk m := by
  unfold houseB at h
  simp only [Bool.and_eq_true, Bool.not_eq_true', beq_iff_eq, decide_eq_true_eq, List.any_eq_false, Bool.not_eq_true, Bool.not_eq_false'] at h
  obtain ⟨⟨⟨⟨⟨⟨⟨⟨h1, h2⟩, h3⟩, h4⟩, h5⟩, h6⟩, h7⟩, h8⟩, h9⟩ := h
  have i2 := inB_is h2
  have i4 := inB_is h4
  have hn : m.rooms.length ≤ 3 := by omega
  refine ⟨inB_is h1, by omega, by omega, by omega, h5, fun r hr => ?_, fun f hf => ?_, fun x hx => ?_, fun x hx => ?_⟩
  · have := h6 r hr
    unfold roomB at this
    simp only [Bool.not_eq_false, Bool.and_eq_true, Bool.not_eq_true', decide_eq_false_iff_not] at this
    have a1 := inB_is this.1.1.2
    have a2 := inB_is this.1.2
    have a3 := inB_is this.2
    omega
  · have := h7 f hf
    unfold fanB at this
    simp only [Bool.not_eq_false, Bool.and_eq_true] at this
    have a1 := inB_is this.1
    have a2 := inB_is this.2
    rw [w64_small (by omega) (by omega)] at a1
    omega
  · have := h8 x hx
    unfold setB at this
    simp only [Bool.not_eq_false] at this
    have a1 := inB_is this
    have e : min m.rooms.length 64 = m.rooms.length := by omega
    have hp : (2 : Int) ^ m.rooms.length ≤ 8 := by
      have : m.rooms.length = 1 ∨ m.rooms.length = 2 ∨ m.rooms.length = 3 := by omega
      rcases this with q | q | q <;> rw [q] <;> decide
    have hp0 : (0 : Int) < (2 : Int) ^ m.rooms.length := by
      have : m.rooms.length = 1 ∨ m.rooms.length = 2 ∨ m.rooms.length = 3 := by omega
      rcases this with q | q | q <;> rw [q] <;> decide
    rw [e, w64_small (n := 2 ^ m.rooms.length) (by omega) (by omega), w64_small (by omega) (by omega)] at a1
    omega
  · have := h9 x hx
    unfold handB at this
    simp only [Bool.not_eq_false, Bool.and_eq_true] at this
    exact ⟨inB_is this.1, inB_is this.2⟩
theorem HOk.small {m : Hs} (h : HOk m) : TX.smallH m = true := by
  rw [TX.sm_mk]
  have h2 : (2 : Int) ^ m.rooms.length ≤ 8 := by
    have := h.rooms
    have : m.rooms.length = 1 ∨ m.rooms.length = 2 ∨ m.rooms.length = 3 := by omega
    rcases this with q | q | q <;> rw [q] <;> decide
  refine ⟨?_, List.all_eq_true.2 fun r hr => ?_, List.all_eq_true.2 fun r hr => ?_, List.all_eq_true.2 fun r hr => ?_, List.all_eq_true.2 fun r hr => ?_⟩
  · have := h.hours
    unfold TX.smallP
    simp only [Bool.and_eq_true, decide_eq_true_eq]
    omega
  · have := h.room r hr
    unfold TX.Rm.ok TX.smallP
    simp only [Bool.and_eq_true, decide_eq_true_eq]
    omega
  · have := h.fan r hr
    have := h.rooms
    unfold TX.Fa.ok TX.smallP
    simp only [Bool.and_eq_true, decide_eq_true_eq]
    omega
  · have := h.set r hr
    unfold TX.smallP
    simp only [Bool.and_eq_true, decide_eq_true_eq]
    omega
  · have := h.hand r hr
    unfold TX.Ha.ok TX.smallP
    simp only [Bool.and_eq_true, decide_eq_true_eq]
    omega
theorem HOk.text {m : Hs} (h : HOk m) : okT m = true := by
  have h1 := h.rooms
  have h2 := h.fans
  have h3 := h.hands
  have h4 := h.op
  have h5 := h.hours
  unfold okT
  simp only [Bool.and_eq_true, decide_eq_true_eq]
  exact ⟨⟨h.small, by omega⟩, by omega⟩
set_option maxHeartbeats 1000000 in
theorem R40 : ∀ args v, sp40 args = some v → ClR (dX cZD) 40 args emptyHp (isRet v) := by
  intro args v h
  unfold sp40 at h
  split at h
  · rename_i x
    simp only [Option.map_eq_some_iff] at h
    obtain ⟨m, hh, rfl⟩ := h
    obtain ⟨ra, fa, oa, ha, rfl, v1, v2, v3, v4⟩ := hsV_is hh
    have o1 := sl_out v1
    have o2 := sl_out v2
    have o3 := sl_out v3
    have o4 := sl_out v4
    have k82 := fun h => K82 (X := dX cZD) rfl (SeeV.of v1 h) (SeeV.of v2 h) (SeeV.of v3 h) (SeeV.of v4 h)
    unfold prV40
    cases hb : houseB m with
    | true =>
      have k110 := fun h => K110 (X := dX cZD) rfl (SeeV.of v1 h) (SeeV.of v2 h) (SeeV.of v3 h) (SeeV.of v4 h) (house_ok hb).text
      rw [hb] at k82
      clear v1 v2 v3 v4 hb hh
      refine ClR.walk (c := _) rfl Tryz.func40 rfl (by kernel_rfl) rfl isRet_fail ?_
      simp only [entryEnv, Nat.reduceAdd]
      repeat' (first | refine goS ?_ | (apply U6; exact Z1; exact Z1; (focus (simp only [List.nil_append, List.append_nil]; first | exact k82 _ | exact k110 _)); simp only [pM, pN, rR, rP]) | refine go2 (fun hh => ?_) (fun hh => ?_) | fail)
      all_goals simp only [resV_def (X := dX cZD) Tryz.func40, Tryz.results40, resultsV, resultV, go_sem, *, Nat.reduceLT, Int.reduceEq, Int.reduceBEq, Int.reduceLE, Int.reduceLT, Nat.reduceAdd, Nat.reduceBEq, Nat.reduceEqDiff, reduceIte, Nat.reduceLeDiff, Nat.reduceMul, Nat.reduceSub, reduceCtorEq, frzRes, dFrz, frzCells, isRet_ret, tupleOf]
      all_goals rfl
    | false =>
      rw [hb] at k82
      clear v1 v2 v3 v4 hb hh
      refine ClR.walk (c := _) rfl Tryz.func40 rfl (by kernel_rfl) rfl isRet_fail ?_
      simp only [entryEnv, Nat.reduceAdd]
      repeat' (first | refine goS ?_ | (apply U6; exact Z1; exact Z1; (focus (simp only [List.nil_append, List.append_nil]; first | exact k82 _)); simp only [pM, pN, rR, rP]) | refine go2 (fun hh => ?_) (fun hh => ?_) | fail)
      all_goals simp only [resV_def (X := dX cZD) Tryz.func40, Tryz.results40, resultsV, resultV, go_sem, *, Nat.reduceLT, Int.reduceEq, Int.reduceBEq, Int.reduceLE, Int.reduceLT, Nat.reduceAdd, Nat.reduceBEq, Nat.reduceEqDiff, reduceIte, Nat.reduceLeDiff, Nat.reduceMul, Nat.reduceSub, reduceCtorEq, frzRes, dFrz, frzCells, isRet_ret, tupleOf]
      all_goals rfl
  · cases h
theorem F40 (hT : TabK Tryz.prog) : IntrFn Tryz.prog 40 (flatFnD sp40) := flatD_fn (X := dX cZD) (cZD_sound hT) p40 R40
theorem K40 {X : Ctx} (hX : X.intr 40 = some (flatFnD sp40)) {ra fa oa ha : AV} {m : Hs} {h : Heap} (h1 : SeeV h rmC ra m.rooms) (h2 : SeeV h faC fa m.fans) (h3 : SeeV h intC oa m.op) (h4 : SeeV h haC ha m.hands) :
    Cl X 40 [.agg [.int .i64 m.hours, ra, fa, oa, ha]] h (.ret (prV40 m) h none) := by
  obtain ⟨ra', v1, s1⟩ := h1
  obtain ⟨fa', v2, s2⟩ := h2
  obtain ⟨oa', v3, s3⟩ := h3
  obtain ⟨ha', v4, s4⟩ := h4
  exact Cl.intr hX (by simp only [flatFnD, viewDs, viewD_hs v1 v2 v3 v4, sp40, hsV, s1, s2, s3, s4, Option.map_some])
end Go.AM
set_option linter.unusedSectionVars false
set_option linter.unusedVariables false
set_option linter.unusedSimpArgs false
set_option maxRecDepth 100000
namespace Go.AM
open Go Go.Proofs
variable [Keep]
attribute [local irreducible] W WO WO1 WD WQ WT thenQ blockQ endR isRet retK Cl ClR
open Go.TX (Rm Fa Ha Hs)
inductive Fl where
  | no
  | fan (n h : Int)
  | mach (n h : Int)
def Fl.enc : Fl → AV
  | .no => .iface 196 (.agg [])
  | .fan n h => .iface 198 (.agg [.int .i64 n, .int .i64 h])
  | .mach n h => .iface 199 (.agg [.int .i64 n, .int .i64 h])
def flV : AV → Option Fl
  | .iface 196 (.agg []) => some .no
  | .iface 198 (.agg [.int .i64 n, .int .i64 h]) => some (.fan n h)
  | .iface 199 (.agg [.int .i64 n, .int .i64 h]) => some (.mach n h)
  | _ => none
theorem flV_is {a : AV} {f : Fl} (h : flV a = some f) : a = f.enc := by
  unfold flV at h
  split at h <;> cases h <;> rfl
theorem fl_parts (f : Fl) : outV (some f.enc) = some f.enc ∧ f.enc.cells = [f.enc] ∧ isTuple f.enc = false ∧ f.enc.pur = true := by cases f <;> exact ⟨rfl, rfl, rfl, rfl⟩
def drawsB : Fl → Int → Int → Bool
  | .no, _, _ => true
  | .fan n h, i, hour => (i != n) || decide (hour < h)
  | .mach _ _, _, _ => true
def standsB : Fl → Int → Int → Int → Bool
  | .mach n h, wt, room, hour => (room == n) && inB hour h (w64 (w64 (h + wt) - 1))
  | _, _, _, _ => false
section
variable (c : FuncId → Option (List AV → Heap → Option (AV × Heap)))
theorem C237 (hc : c 237 = none) (a b : Int) (h : Heap) : Cl (dX c) 237 [.agg [], .int .i64 a, .int .i64 b] h (.ret (.bool true) h none) := by
  refine ClR.cl ?_
  refine ClR.walk (c := _) hc Tryz.func237 rfl (by kernel_rfl) rfl (fun e => by cases e) ?_
  simp only [entryEnv, Nat.reduceAdd]
  repeat' (first | refine goS ?_ | refine go2 (fun hh => ?_) (fun hh => ?_) | fail)
  all_goals simp only [resV_def (X := dX c) Tryz.func237, Tryz.results237, resultsV, resultV, go_sem, *, Nat.reduceLT, Int.reduceEq, Int.reduceBEq, Int.reduceLE, Int.reduceLT, Nat.reduceAdd, Nat.reduceBEq, Nat.reduceEqDiff, reduceIte, Nat.reduceLeDiff, Nat.reduceMul, Nat.reduceSub, reduceCtorEq, frzRes, dFrz, frzCells, isRet_ret, tupleOf]
  all_goals rfl
theorem C241 (hc : c 241 = none) (x y a b : Int) (h : Heap) : Cl (dX c) 241 [.agg [.int .i64 x, .int .i64 y], .int .i64 a, .int .i64 b] h (.ret (.bool true) h none) := by
  refine ClR.cl ?_
  refine ClR.walk (c := _) hc Tryz.func241 rfl (by kernel_rfl) rfl (fun e => by cases e) ?_
  simp only [entryEnv, Nat.reduceAdd]
  repeat' (first | refine goS ?_ | refine go2 (fun hh => ?_) (fun hh => ?_) | fail)
  all_goals simp only [resV_def (X := dX c) Tryz.func241, Tryz.results241, resultsV, resultV, go_sem, *, Nat.reduceLT, Int.reduceEq, Int.reduceBEq, Int.reduceLE, Int.reduceLT, Nat.reduceAdd, Nat.reduceBEq, Nat.reduceEqDiff, reduceIte, Nat.reduceLeDiff, Nat.reduceMul, Nat.reduceSub, reduceCtorEq, frzRes, dFrz, frzCells, isRet_ret, tupleOf]
  all_goals rfl
theorem C239 (hc : c 239 = none) (x y a b : Int) (h : Heap) : Cl (dX c) 239 [.agg [.int .i64 x, .int .i64 y], .int .i64 a, .int .i64 b] h (.ret (.bool ((a != x) || decide (b < y))) h none) := by
  refine ClR.cl ?_
  by_cases hq : (a != x) = true
  · refine ClR.walk (c := _) hc Tryz.func239 rfl (by kernel_rfl) rfl (fun e => by cases e) ?_
    simp only [entryEnv, Nat.reduceAdd]
    repeat' (first | refine goS ?_ | refine go2 (fun hh => ?_) (fun hh => ?_) | fail)
    all_goals simp only [resV_def (X := dX c) Tryz.func239, Tryz.results239, resultsV, resultV, go_sem, *, Nat.reduceLT, Int.reduceEq, Int.reduceBEq, Int.reduceLE, Int.reduceLT, Nat.reduceAdd, Nat.reduceBEq, Nat.reduceEqDiff, reduceIte, Nat.reduceLeDiff, Nat.reduceMul, Nat.reduceSub, reduceCtorEq, frzRes, dFrz, frzCells, isRet_ret, tupleOf]
    all_goals simp [isR, frzRes, dX_frz, dFrz, hq]
  · have hq : (a != x) = false := by simpa using hq
    refine ClR.walk (c := _) hc Tryz.func239 rfl (by kernel_rfl) rfl (fun e => by cases e) ?_
    simp only [entryEnv, Nat.reduceAdd]
    repeat' (first | refine goS ?_ | refine go2 (fun hh => ?_) (fun hh => ?_) | fail)
    all_goals simp only [resV_def (X := dX c) Tryz.func239, Tryz.results239, resultsV, resultV, go_sem, *, Nat.reduceLT, Int.reduceEq, Int.reduceBEq, Int.reduceLE, Int.reduceLT, Nat.reduceAdd, Nat.reduceBEq, Nat.reduceEqDiff, reduceIte, Nat.reduceLeDiff, Nat.reduceMul, Nat.reduceSub, reduceCtorEq, frzRes, dFrz, frzCells, isRet_ret, tupleOf]
    all_goals simp [isR, frzRes, dX_frz, dFrz, hq]
theorem C238 (hc : c 238 = none) (z0 z1 z2 z3 z4 : AV) (a b : Int) (h : Heap) : Cl (dX c) 238 [.agg [], .agg [z0, z1, z2, z3, z4], .int .i64 a, .int .i64 b] h (.ret (.bool false) h none) := by
  refine ClR.cl ?_
  refine ClR.walk (c := _) hc Tryz.func238 rfl (by kernel_rfl) rfl (fun e => by cases e) ?_
  simp only [entryEnv, Nat.reduceAdd]
  repeat' (first | refine goS ?_ | refine go2 (fun hh => ?_) (fun hh => ?_) | fail)
  all_goals simp only [resV_def (X := dX c) Tryz.func238, Tryz.results238, resultsV, resultV, go_sem, *, Nat.reduceLT, Int.reduceEq, Int.reduceBEq, Int.reduceLE, Int.reduceLT, Nat.reduceAdd, Nat.reduceBEq, Nat.reduceEqDiff, reduceIte, Nat.reduceLeDiff, Nat.reduceMul, Nat.reduceSub, reduceCtorEq, frzRes, dFrz, frzCells, isRet_ret, tupleOf]
  all_goals rfl
theorem C240 (hc : c 240 = none) (x y : Int) (z0 z1 z2 z3 z4 : AV) (a b : Int) (h : Heap) : Cl (dX c) 240 [.agg [.int .i64 x, .int .i64 y], .agg [z0, z1, z2, z3, z4], .int .i64 a, .int .i64 b] h (.ret (.bool false) h none) := by
  refine ClR.cl ?_
  refine ClR.walk (c := _) hc Tryz.func240 rfl (by kernel_rfl) rfl (fun e => by cases e) ?_
  simp only [entryEnv, Nat.reduceAdd]
  repeat' (first | refine goS ?_ | refine go2 (fun hh => ?_) (fun hh => ?_) | fail)
  all_goals simp only [resV_def (X := dX c) Tryz.func240, Tryz.results240, resultsV, resultV, go_sem, *, Nat.reduceLT, Int.reduceEq, Int.reduceBEq, Int.reduceLE, Int.reduceLT, Nat.reduceAdd, Nat.reduceBEq, Nat.reduceEqDiff, reduceIte, Nat.reduceLeDiff, Nat.reduceMul, Nat.reduceSub, reduceCtorEq, frzRes, dFrz, frzCells, isRet_ret, tupleOf]
  all_goals rfl
theorem C242 (hc : c 242 = none) (hc1 : c 102 = some (pureFn sp102)) (x y : Int) (z0 ra z2 z3 z4 : AV) (rs : List Rm) (hr : slV rmC ra = some rs) (a : Nat) (b : Int) (p : Rm) (hp : rs[a]? = some p) (h : Heap) :
    Cl (dX c) 242 [.agg [.int .i64 x, .int .i64 y], .agg [z0, ra, z2, z3, z4], .int .i64 (a : Int), .int .i64 b] h (.ret (.bool (((a : Int) == x) && inB b y (w64 (w64 (y + p.wt) - 1)))) h none) := by
  refine ClR.cl ?_
  have hix := fun H => rms_idx hr hp H
  have hout := sl_out hr
  have k102 := fun u v w h => K102 (X := dX c) hc1 u v w h
  clear hr hp
  by_cases hq : ((a : Int) == x) = true
  · refine ClR.walk (c := _) hc Tryz.func242 rfl (by kernel_rfl) rfl (fun e => by cases e) ?_
    simp only [entryEnv, Nat.reduceAdd]
    repeat' (first | (apply W.drawQ (id := 1) (l1 := [0, 1, 2, 3, 4, 5, 6, 7, 8, 9, 10, 11, 12, 13, 14, 15, 16, 17, 18, 19, 20]) (l2 := []); kernel_rfl; kernel_rfl; kernel_rfl; exact Z4) | refine go1 ?_ | (apply U6; exact Z1; exact Z1; (focus (simp only [List.nil_append, List.append_nil]; first | exact k102 _ _ _ _)); simp only [pM, pN, rR, rP]) | refine go2 (fun hh => ?_) (fun hh => ?_) | fail)
    all_goals simp only [resV_def (X := dX c) Tryz.func242, Tryz.results242, resultsV, resultV, go_sem, *, Nat.reduceLT, Int.reduceEq, Int.reduceBEq, Int.reduceLE, Int.reduceLT, Nat.reduceAdd, Nat.reduceBEq, Nat.reduceEqDiff, reduceIte, Nat.reduceLeDiff, Nat.reduceMul, Nat.reduceSub, reduceCtorEq, frzRes, dFrz, frzCells, isRet_ret, tupleOf]
    all_goals simp [isR, frzRes, dX_frz, dFrz, hq, w64]
  · have hq : ((a : Int) == x) = false := by simpa using hq
    refine ClR.walk (c := _) hc Tryz.func242 rfl (by kernel_rfl) rfl (fun e => by cases e) ?_
    simp only [entryEnv, Nat.reduceAdd]
    repeat' (first | (apply W.drawQ (id := 1) (l1 := [0, 1, 2, 3, 4, 5, 6, 7, 8, 9, 10, 11, 12, 13, 14, 15, 16, 17, 18, 19, 20]) (l2 := []); kernel_rfl; kernel_rfl; kernel_rfl; exact Z4) | refine go1 ?_ | (apply U6; exact Z1; exact Z1; (focus (simp only [List.nil_append, List.append_nil]; first | exact k102 _ _ _ _)); simp only [pM, pN, rR, rP]) | refine go2 (fun hh => ?_) (fun hh => ?_) | fail)
    all_goals simp only [resV_def (X := dX c) Tryz.func242, Tryz.results242, resultsV, resultV, go_sem, *, Nat.reduceLT, Int.reduceEq, Int.reduceBEq, Int.reduceLE, Int.reduceLT, Nat.reduceAdd, Nat.reduceBEq, Nat.reduceEqDiff, reduceIte, Nat.reduceLeDiff, Nat.reduceMul, Nat.reduceSub, reduceCtorEq, frzRes, dFrz, frzCells, isRet_ret, tupleOf]
    all_goals simp [isR, frzRes, dX_frz, dFrz, hq, w64]
end
def rm0 : Rm := ⟨0, 0, 0, 0, 0⟩
def runsB (m : Hs) (f : Fl) (r k : Nat) : Bool := hasB (m.op.getD k 0) r && !standsB f (m.rooms.getD r rm0).wt r k
set_option maxHeartbeats 1000000 in
theorem C149 (c : FuncId → Option (List AV → Heap → Option (AV × Heap))) (hc : c 149 = none) (hc1 : c 102 = some (pureFn sp102)) (hc2 : c 89 = some (pureFn sp89)) (hc3 : c 238 = none) (hc4 : c 240 = none) (hc5 : c 242 = none) (m : Hs) (f : Fl) (ra fa oa ha : AV) (hr : slV rmC ra = some m.rooms) (ho : slV intC oa = some m.op) (r k : Nat) (hrl : r < m.rooms.length) (hkl : k < m.op.length)
    (ofa : outV (some fa) = some fa ∧ outV (some ha) = some ha) (h : Heap) :
    Cl (dX c) 149 [.agg [.int .i64 m.hours, ra, fa, oa, ha, f.enc], .int .i64 (r : Int), .int .i64 (k : Int)] h (.ret (.bool (runsB m f r k)) h none) := by
  refine ClR.cl ?_
  obtain ⟨p, hp⟩ := get_some hrl
  obtain ⟨s, hs⟩ := get_some hkl
  have hgp : m.rooms.getD r rm0 = p := by simp [List.getD, hp]
  have hgs : m.op.getD k 0 = s := by simp [List.getD, hs]
  have hR : runsB m f r k = (hasB s r && !standsB f p.wt r k) := by unfold runsB; rw [hgp, hgs]
  rw [hR]
  have hix := fun H => ints_idx ho hs H
  have o1 := sl_out hr
  have o3 := sl_out ho
  obtain ⟨o2, o4⟩ := ofa
  have k89 := fun h => K89 (X := dX c) hc2 s r (by omega) h
  have kst : ∃ gS t u, f.enc = .iface t u ∧ methodOf Tryz.prog t "nacre/shift.stands" = some gS ∧ ∀ h, Cl (dX c) gS [u, .agg [.int .i64 m.hours, ra, fa, oa, ha], .int .i64 (r : Int), .int .i64 (k : Int)] h (.ret (.bool (standsB f p.wt r k)) h none) := by
    cases f with
    | no => exact ⟨238, 196, .agg [], rfl, by kernel_rfl, fun h => C238 c hc3 _ _ _ _ _ _ _ h⟩
    | fan x y => exact ⟨240, 198, _, rfl, by kernel_rfl, fun h => C240 c hc4 _ _ _ _ _ _ _ _ _ h⟩
    | mach x y => exact ⟨242, 199, _, rfl, by kernel_rfl, fun h => C242 c hc5 hc1 _ _ _ _ _ _ _ _ hr _ _ _ hp h⟩
  obtain ⟨gS, tS, uS, hfe, hme, kst⟩ := kst
  rw [hfe]
  generalize standsB f p.wt r k = sb at *
  generalize hasB s r = hb at *
  clear hr ho hp hs hgp hgs hR hfe
  cases hb with
  | false =>
    refine ClR.walk (c := _) hc Tryz.func149 rfl (by kernel_rfl) rfl (fun e => by cases e) ?_
    simp only [entryEnv, Nat.reduceAdd]
    repeat' (first | refine goS ?_ | (apply U6; exact Z1; exact Z1; (focus (simp only [List.nil_append, List.append_nil]; first | exact k89 _)); simp only [pM, pN, rR, rP]) | refine go2 (fun hh => ?_) (fun hh => ?_) | fail)
    all_goals simp only [resV_def (X := dX c) Tryz.func149, Tryz.results149, resultsV, resultV, go_sem, *, Nat.reduceLT, Int.reduceEq, Int.reduceBEq, Int.reduceLE, Int.reduceLT, Nat.reduceAdd, Nat.reduceBEq, Nat.reduceEqDiff, reduceIte, Nat.reduceLeDiff, Nat.reduceMul, Nat.reduceSub, reduceCtorEq, frzRes, dFrz, frzCells, isRet_ret, tupleOf]
    all_goals rfl
  | true =>
    have kst := kst h
    refine ClR.walk (c := _) hc Tryz.func149 rfl (by kernel_rfl) rfl (fun e => by cases e) ?_
    simp only [entryEnv, Nat.reduceAdd]
    repeat' (first | (apply WO1.invoke (g := gS); exact Z1; exact Z1; (focus (exact hme)); (focus (exact kst)); simp only [pM, pN, rR, rP]) | refine go1 ?_ | (apply U6; exact Z1; exact Z1; (focus (simp only [List.nil_append, List.append_nil]; first | exact k89 _)); simp only [pM, pN, rR, rP]) | refine go2 (fun hh => ?_) (fun hh => ?_) | fail)
    all_goals simp only [resV_def (X := dX c) Tryz.func149, Tryz.results149, resultsV, resultV, go_sem, *, Nat.reduceLT, Int.reduceEq, Int.reduceBEq, Int.reduceLE, Int.reduceLT, Nat.reduceAdd, Nat.reduceBEq, Nat.reduceEqDiff, reduceIte, Nat.reduceLeDiff, Nat.reduceMul, Nat.reduceSub, reduceCtorEq, frzRes, dFrz, frzCells, isRet_ret, tupleOf]
    all_goals rfl
def drawnP (m : Hs) (f : Fl) (r k : Nat) : Nat → List Int
  | 0 => []
  | j + 1 => match m.fans[j]? with
    | some x => if ((x.room == (r : Int)) && drawsB f j k) = true then drawnP m f r k j ++ [x.draws] else drawnP m f r k j
    | none => drawnP m f r k j
def nowF (m : Hs) (f : Fl) (r : Nat) (md : Nat → Int) : Nat → Int
  | 0 => (m.rooms.getD r rm0).stt
  | k + 1 => maxV 0 (w64 ((if runsB m f r k = true then w64 (nowF m f r md k + md k) else nowF m f r md k) - sumW (drawnP m f r k m.fans.length)))
def rowF (m : Hs) (f : Fl) (r : Nat) (md : Nat → Int) : Nat → List Int
  | 0 => []
  | k + 1 => rowF m f r md k ++ [nowF m f r md (k + 1)]
theorem drawn_len (m : Hs) (f : Fl) (r k : Nat) : ∀ j, (drawnP m f r k j).length ≤ j := by
  intro j
  induction j with
  | zero => exact Nat.le_refl _
  | succ j ih =>
    unfold drawnP
    split
    · split
      · rw [List.length_append, List.length_cons, List.length_nil]; omega
      · omega
    · omega
theorem row_len (m : Hs) (f : Fl) (r : Nat) (md : Nat → Int) : ∀ k, (rowF m f r md k).length = k := by
  intro k
  induction k with
  | zero => rfl
  | succ k ih => unfold rowF; rw [List.length_append, ih]; rfl
theorem K171b {X : Ctx} (hX : X.intr 171 = some (flatFnD sp171)) {a : AV} {l : List Int} {h : Heap} (b : Blt h a 1 (intsE l)) (hl : l.length ≤ maxL) : Cl X 171 [a] h (.ret (.int .i64 (sumW l)) h none) := by
  obtain ⟨a', v1, s1⟩ := SeeV.blt (c := intC) b hl
  have e : viewD h a = some a' := by
    rcases b with ⟨rfl, _⟩ | ⟨id, rfl, _⟩
    · exact v1
    · exact v1
  exact Cl.intr hX (by simp only [flatFnD, viewDs, e, sp171, s1, Option.map_some])
def roomR (l : List Int) (h : Heap) (r : COut) : Prop := ∃ h', HExt h h' ∧ r = .ret (slN (intsE l)) h' none
theorem roomR_fail {l : List Int} {h : Heap} : ¬ roomR l h .fail := by rintro ⟨_, _, e⟩; cases e
attribute [local irreducible] roomR drawnP nowF rowF runsB sumW
set_option maxHeartbeats 8000000 in
theorem C124 (c : FuncId → Option (List AV → Heap → Option (AV × Heap))) (hc : c 124 = none) (hc0 : c 149 = none) (hc1 : c 102 = some (pureFn sp102)) (hc2 : c 89 = some (pureFn sp89)) (hc3 : c 238 = none) (hc4 : c 240 = none) (hc5 : c 242 = none) (hc6 : c 237 = none) (hc7 : c 239 = none) (hc8 : c 241 = none) (hc9 : c 171 = some (flatFnD sp171))
    (m : Hs) (f : Fl) (ra fa oa ha : AV) (hr : slV rmC ra = some m.rooms) (hf : slV faC fa = some m.fans) (ho : slV intC oa = some m.op) (oha : outV (some ha) = some ha) (n : Nat) (hn : m.hours = n) (hol : m.op.length = n) (hn4 : n ≤ 1000) (hfl : m.fans.length ≤ 1000) (r : Nat) (hrl : r < m.rooms.length)
    (g : FuncId) (first capt : List AV) (md : Nat → Int) (h : Heap) (hmd : ∀ (k : Nat) (hh : Heap), k < n → HExt h hh → Cl (dX c) g ((first ++ [.int .i64 (k : Int)]) ++ capt) hh (.ret (.int .i64 (md k)) hh none)) :
    ClR (dX c) 124 [.agg [.int .i64 m.hours, ra, fa, oa, ha, f.enc], .int .i64 (r : Int), .func (.func g) first capt] h (roomR (rowF m f r md n) h) := by
  obtain ⟨p, hp⟩ := get_some hrl
  have hgp : nowF m f r md 0 = p.stt := by unfold nowF; simp [List.getD, hp]
  have hixr := fun H => rms_idx hr hp H
  have o1 := sl_out hr
  have o2 := sl_out hf
  have o3 := sl_out ho
  have lf := sl_len hf
  have k149 := fun k hk h => C149 c hc0 hc1 hc2 hc3 hc4 hc5 m f ra fa oa ha hr ho r k hrl (by rw [hol]; exact hk) ⟨o2, oha⟩ h
  have kdr : ∃ gD t u, f.enc = .iface t u ∧ methodOf Tryz.prog t "nacre/shift.draws" = some gD ∧ ∀ (i k : Nat) h, Cl (dX c) gD [u, .int .i64 (i : Int), .int .i64 (k : Int)] h (.ret (.bool (drawsB f i k)) h none) := by
    cases f with
    | no => exact ⟨237, 196, .agg [], rfl, by kernel_rfl, fun i k h => C237 c hc6 _ _ h⟩
    | fan x y => exact ⟨239, 198, _, rfl, by kernel_rfl, fun i k h => C239 c hc7 _ _ _ _ h⟩
    | mach x y => exact ⟨241, 199, _, rfl, by kernel_rfl, fun i k h => C241 c hc8 _ _ _ _ h⟩
  obtain ⟨gS, tS, uS, hfe, hme, kdr⟩ := kdr
  obtain ⟨fo, fcl, fit, _⟩ := fl_parts f
  rw [hfe] at fo fcl fit k149
  rw [hfe, hn]
  rw [hn] at k149
  simp only [AV.cells] at fcl
  simp only [isTuple] at fit
  have H2 := Lib.hid hf
  have HGP := Lib.hid hgp
  have HMD := Lib.hid hmd
  have K149 := Lib.hid k149
  have KDR := Lib.hid kdr
  clear hr hf ho hp hgp hmd k149 kdr hfe hrl
  refine ClR.walk (c := _) hc Tryz.func124 rfl (by kernel_rfl) rfl roomR_fail ?_
  simp only [entryEnv, Nat.reduceAdd]
  repeat' (first | refine goS ?_ | refine go2 (fun hh => ?_) (fun hh => ?_) | fail)
  refine W.loopV (n) [1, 2, 3, 22] [3] (fun k e lm hp => ∃ u, e.get 23 = some (.int .i64 ↑k) ∧ e.get 8 = some (.int .i64 (nowF m f r md k)) ∧ e.get 7 = some (u) ∧ BltN h.next hp u 1 (intsE (rowF m f r md k)) ∧ (h.next ≤ hp.next ∧ ∀ id, id < h.next → hp.get id = h.get id)) ?_ ?_
  · skip
    refine ⟨.nilslice, ?_, ?_, ?_, ?_, ⟨Nat.le_refl _, fun _ _ => rfl⟩⟩
    · simp [go_sem, *]
    · rw [HGP.out]; simp only [go_sem, *, Nat.reduceLT, Int.reduceEq, Int.reduceBEq, Int.reduceLE, Int.reduceLT, Nat.reduceAdd, Nat.reduceBEq, Nat.reduceEqDiff, reduceIte, Nat.reduceLeDiff, Nat.reduceMul, Nat.reduceSub, reduceCtorEq]
    · simp only [go_sem, *, Nat.reduceLT, Int.reduceEq, Int.reduceBEq, Int.reduceLE, Int.reduceLT, Nat.reduceAdd, Nat.reduceBEq, Nat.reduceEqDiff, reduceIte, Nat.reduceLeDiff, Nat.reduceMul, Nat.reduceSub, reduceCtorEq]
    · unfold rowF; exact BltN.nil
  intro k e lm hp hk0 hce hcl hinv
  simp only [keepE, and_true] at hce
  obtain ⟨c1, c2, c3, c22⟩ := hce
  simp only [go_sem, *, Nat.reduceLT, Int.reduceEq, Int.reduceBEq, Int.reduceLE, Int.reduceLT, Nat.reduceAdd, Nat.reduceBEq, Nat.reduceEqDiff, reduceIte, Nat.reduceLeDiff, Nat.reduceMul, Nat.reduceSub, reduceCtorEq] at c1 c2 c3 c22
  simp only [keepL, and_true] at hcl
  have d3 := hcl
  clear hcl
  simp only [go_sem, *, Nat.reduceLT, Int.reduceEq, Int.reduceBEq, Int.reduceLE, Int.reduceLT, Nat.reduceAdd, Nat.reduceBEq, Nat.reduceEqDiff, reduceIte, Nat.reduceLeDiff, Nat.reduceMul, Nat.reduceSub, reduceCtorEq] at d3
  obtain ⟨u, h23, h8, h7, hB, hX⟩ := hinv
  by_cases hlt : k < n
  · have hd0 : decide ((k : Int) < ((n : Nat) : Int)) = true := by first | (simpa using hlt; done) | (simp only [decide_eq_true_eq]; omega)
    have hv_0 := wrap_succ hlt (by unfold maxL; omega)
    have hbo := hB.blt.out
    have k149 := K149.out k hlt hp
    have hcb := HMD.out k hp hlt hX
    have hnx : nowF m f r md (k + 1) = maxV 0 (w64 ((if runsB m f r k = true then w64 (nowF m f r md k + md k) else nowF m f r md k) - sumW (drawnP m f r k m.fans.length))) := by rw [nowF]
    have hrx : rowF m f r md (k + 1) = rowF m f r md k ++ [nowF m f r md (k + 1)] := by rw [rowF]
    have hrl := row_len m f r md k
    generalize hq1 : nowF m f r md (k + 1) = n1 at *
    generalize hq2 : rowF m f r md (k + 1) = r1 at *
    generalize nowF m f r md k = n0 at *
    generalize rowF m f r md k = r0 at *
    generalize md k = mk at *
    have HNX := Lib.hid hnx
    have HRX := Lib.hid hrx
    have HQ1 := Lib.hid hq1
    have HQ2 := Lib.hid hq2
    have HLT0 := Lib.hid hlt
    have HRL := Lib.hid hrl
    clear hnx hrx hq1 hq2 hrl
    have HX0 := Lib.hid hX
    obtain ⟨nb, hnb⟩ : ∃ nb, nb = (if runsB m f r k = true then w64 (n0 + mk) else n0) := ⟨_, rfl⟩
    have HNB := Lib.hid hnb
    have hrun : (runsB m f r k = true ∧ IntKind.i64.wrap (n0 + mk) = nb) ∨ (runsB m f r k = false ∧ nb = n0) := by
      cases q : runsB m f r k with
      | true => left; rw [hnb, q]; exact ⟨rfl, rfl⟩
      | false => right; rw [hnb, q]; exact ⟨rfl, rfl⟩
    clear hnb hlt
    generalize runsB m f r k = rb at *
    rcases hrun with ⟨rfl, hwb⟩ | ⟨rfl, rfl⟩
    all_goals
      repeat' (first | refine goS ?_ | (apply U6; exact Z1; exact Z1; (focus (simp only [List.nil_append, List.append_nil]; first | exact k149 | exact hcb)); simp only [pM, pN, rR, rP]) | refine go2 (fun hh => ?_) (fun hh => ?_) | fail)
      refine W.loopV (m.fans.length) [1, 2, 3, 7, 8, 9, 22, 23, 37, 38] [3] (fun j e1 lm1 hp1 => ∃ ud, e1.get 39 = some (.int .i64 ↑j) ∧ e1.get 10 = some (ud) ∧ BltN h.next hp1 ud 1 (intsE (drawnP m f r k j)) ∧ BltN h.next hp1 u 1 (intsE r0) ∧ SepV u ud ∧ (h.next ≤ hp1.next ∧ ∀ id, id < h.next → hp1.get id = h.get id)) ?_ ?_
      · skip
        refine ⟨.nilslice, ?_, ?_, ?_, hB, SepV.nil' _, HX0.out⟩
        · simp [go_sem, *]
        · simp only [go_sem, *, Nat.reduceLT, Int.reduceEq, Int.reduceBEq, Int.reduceLE, Int.reduceLT, Nat.reduceAdd, Nat.reduceBEq, Nat.reduceEqDiff, reduceIte, Nat.reduceLeDiff, Nat.reduceMul, Nat.reduceSub, reduceCtorEq]
        · unfold drawnP; exact BltN.nil
      intro j e1 lm1 hp1 hk1 hce hcl hinv
      simp only [keepE, and_true] at hce
      obtain ⟨c1, c2, c3, c7, c8, c9, c22, c23, c37, c38⟩ := hce
      simp only [go_sem, *, Nat.reduceLT, Int.reduceEq, Int.reduceBEq, Int.reduceLE, Int.reduceLT, Nat.reduceAdd, Nat.reduceBEq, Nat.reduceEqDiff, reduceIte, Nat.reduceLeDiff, Nat.reduceMul, Nat.reduceSub, reduceCtorEq] at c1 c2 c3 c7 c8 c9 c22 c23 c37 c38
      simp only [keepL, and_true] at hcl
      have d3 := hcl
      clear hcl
      simp only [go_sem, *, Nat.reduceLT, Int.reduceEq, Int.reduceBEq, Int.reduceLE, Int.reduceLT, Nat.reduceAdd, Nat.reduceBEq, Nat.reduceEqDiff, reduceIte, Nat.reduceLeDiff, Nat.reduceMul, Nat.reduceSub, reduceCtorEq] at d3
      obtain ⟨ud, h39, h10, hD, hB1, hS, hX1⟩ := hinv
      by_cases hjt : j < m.fans.length
      · have hd1 : decide ((j : Int) < ((m.fans.length : Nat) : Int)) = true := by first | (simpa using hjt; done) | (simp only [decide_eq_true_eq]; omega)
        have hv_1 := wrap_succ hjt (by unfold maxL; omega)
        have hX := hX1
        have hdo := hD.blt.out
        obtain ⟨x, hx⟩ := get_some hjt
        have hix := fun H => fas_idx H2.out hx H
        have kst := KDR.out j k hp1
        have hdl := drawn_len m f r k j
        have hdn : drawnP m f r k (j + 1) = if ((x.room == (r : Int)) && drawsB f j k) = true then drawnP m f r k j ++ [x.draws] else drawnP m f r k j := by rw [drawnP, hx]
        have hll : (intsE (drawnP m f r k j)).length + 1 ≤ most := by rw [intsE_len]; unfold most; omega
        generalize hq3 : drawnP m f r k (j + 1) = d1 at *
        generalize drawnP m f r k j = d0 at *
        generalize drawsB f j k = db at *
        have HQ3 := Lib.hid hq3
        have HLT1 := Lib.hid hjt
        have HB1 := Lib.hid hB1
        have HS := Lib.hid hS
        have HD := Lib.hid hD
        have HX1 := Lib.hid hX1
        clear hx hdl hq3 hjt hB1 hS hX1
        have hcase : ((x.room == (r : Int)) = false ∧ d1 = d0) ∨ ((x.room == (r : Int)) = true ∧ db = false ∧ d1 = d0) ∨ ((x.room == (r : Int)) = true ∧ db = true ∧ d1 = d0 ++ [x.draws]) := by
          revert hdn
          cases (x.room == (r : Int)) <;> cases db <;> simp
        clear hdn
        rcases hcase with ⟨z1, e1⟩ | ⟨z1, rfl, e1⟩ | ⟨z1, rfl, e1⟩
        · have E1 := Lib.hid e1
          clear e1
          repeat' (first | refine goS ?_ | refine go2 (fun hh => ?_) (fun hh => ?_) | fail)
          all_goals refine contV_mk (by first | assumption | exact HLT1.out) (by simp only [keepE, and_true, and_self, go_sem, *, Nat.reduceLT, Int.reduceEq, Int.reduceBEq, Int.reduceLE, Int.reduceLT, Nat.reduceAdd, Nat.reduceBEq, Nat.reduceEqDiff, reduceIte, Nat.reduceLeDiff, Nat.reduceMul, Nat.reduceSub, reduceCtorEq]) (by simp only [keepL, and_true, and_self, go_sem, *, Nat.reduceLT, Int.reduceEq, Int.reduceBEq, Int.reduceLE, Int.reduceLT, Nat.reduceAdd, Nat.reduceBEq, Nat.reduceEqDiff, reduceIte, Nat.reduceLeDiff, Nat.reduceMul, Nat.reduceSub, reduceCtorEq]) ?_
          all_goals refine ⟨ud, ?_, ?_, ?_, HB1.out, HS.out, HX1.out⟩
          all_goals first | exact Z2 | skip
          rw [HQ3.out, E1.out]; exact HD.out
        · have E1 := Lib.hid e1
          clear e1
          repeat' (first | (apply WO1.invoke (g := gS); exact Z1; exact Z1; (focus (exact hme)); (focus (exact kst)); simp only [pM, pN, rR, rP]) | refine go1 ?_ | refine go2 (fun hh => ?_) (fun hh => ?_) | fail)
          all_goals refine contV_mk (by first | assumption | exact HLT1.out) (by simp only [keepE, and_true, and_self, go_sem, *, Nat.reduceLT, Int.reduceEq, Int.reduceBEq, Int.reduceLE, Int.reduceLT, Nat.reduceAdd, Nat.reduceBEq, Nat.reduceEqDiff, reduceIte, Nat.reduceLeDiff, Nat.reduceMul, Nat.reduceSub, reduceCtorEq]) (by simp only [keepL, and_true, and_self, go_sem, *, Nat.reduceLT, Int.reduceEq, Int.reduceBEq, Int.reduceLE, Int.reduceLT, Nat.reduceAdd, Nat.reduceBEq, Nat.reduceEqDiff, reduceIte, Nat.reduceLeDiff, Nat.reduceMul, Nat.reduceSub, reduceCtorEq]) ?_
          all_goals refine ⟨ud, ?_, ?_, ?_, HB1.out, HS.out, HX1.out⟩
          all_goals first | exact Z2 | skip
          rw [HQ3.out, E1.out]; exact HD.out
        · have E1 := Lib.hid e1
          clear e1
          repeat' (first | (apply WO1.invoke (g := gS); exact Z1; exact Z1; (focus (exact hme)); (focus (exact kst)); simp only [pM, pN, rR, rP]) | (apply WO1.appendX (t := 24) (u := 24) (e := 3) (e' := 3) (sz := 1) (tl := []) (b := h.next) (h0 := h) (hb := hD) (hx := hX); exact Z1; exact rfl; exact Z2; exact Z2; exact Z2; (focus (exact ty_row24)); exact Z1; (focus (intro v hv; simp at hv; subst hv; rfl)); (focus (simp only [List.length_map, List.length_cons, List.length_nil]; exact hll)); (focus (simp)); (intro v' h' hB' ho' hK' hE' hX'; simp only [pM, pN])) | refine go1 ?_ | refine go2 (fun hh => ?_) (fun hh => ?_) | fail)
          all_goals refine contV_mk (by first | assumption | exact HLT1.out) (by simp only [keepE, and_true, and_self, go_sem, *, Nat.reduceLT, Int.reduceEq, Int.reduceBEq, Int.reduceLE, Int.reduceLT, Nat.reduceAdd, Nat.reduceBEq, Nat.reduceEqDiff, reduceIte, Nat.reduceLeDiff, Nat.reduceMul, Nat.reduceSub, reduceCtorEq]) (by simp only [keepL, and_true, and_self, go_sem, *, Nat.reduceLT, Int.reduceEq, Int.reduceBEq, Int.reduceLE, Int.reduceLT, Nat.reduceAdd, Nat.reduceBEq, Nat.reduceEqDiff, reduceIte, Nat.reduceLeDiff, Nat.reduceMul, Nat.reduceSub, reduceCtorEq]) ?_
          all_goals refine ⟨v', ?_, ?_, ?_, ?_, ?_, hX'⟩
          all_goals first | exact Z2 | skip
          · rw [HQ3.out, E1.out, intsE_app]; exact hB'
          · exact HB1.out.apart hK' HS.out
          · rw [hE']; exact SepV.new HB1.out
      · have hd1 : decide ((j : Int) < ((m.fans.length : Nat) : Int)) = false := by first | (simpa using hjt; done) | (simp only [decide_eq_false_iff_not]; omega)
        obtain rfl : j = m.fans.length := by omega
        clear hB hbo hX
        have hB := hB1
        have hX := hX1
        clear hB1 hX1
        have hbo := hB.blt.out
        have hdo := hD.blt.out
        have hdl := drawn_len m f r k m.fans.length
        have k171 := K171b (X := dX c) hc9 hD.blt (by unfold maxL; omega)
        have hnx := HNX.out
        rw [← HNB.out] at hnx
        have hmx : foldV maxV .i64 0 [.int .i64 (w64 (nb - sumW (drawnP m f r k m.fans.length)))] = some (.int .i64 n1) := by rw [hnx]; rfl
        have hmx2 : IntKind.i64.wrap (nb - sumW (drawnP m f r k m.fans.length)) = w64 (nb - sumW (drawnP m f r k m.fans.length)) := rfl
        have hmx3 : maxV 0 (w64 (nb - sumW (drawnP m f r k m.fans.length))) = n1 := hnx.symm
        have hll : (intsE r0).length + 1 ≤ most := by rw [intsE_len]; have := HRL.out; unfold most; omega
        clear hnx hdl hD hS
        generalize w64 (nb - sumW (drawnP m f r k m.fans.length)) = y1 at *
        generalize sumW (drawnP m f r k m.fans.length) = y0 at *
        repeat' (first | (apply WO1.appendX (t := 24) (u := 24) (e := 3) (e' := 3) (sz := 1) (tl := []) (b := h.next) (h0 := h) (hb := hB) (hx := hX); exact Z1; exact rfl; exact Z2; exact Z2; exact Z2; (focus (exact ty_row24)); exact Z1; (focus (intro v hv; simp at hv; subst hv; rfl)); (focus (simp only [List.length_map, List.length_cons, List.length_nil]; exact hll)); (focus (simp)); (intro v' h' hB' ho' hK' hE' hX'; simp only [pM, pN])) | refine go1 ?_ | (apply U6; exact Z1; exact Z1; (focus (simp only [List.nil_append, List.append_nil]; first | exact k171)); simp only [pM, pN, rR, rP]) | refine go2 (fun hh => ?_) (fun hh => ?_) | fail)
        all_goals refine contV_mk HLT0.out (by simp only [keepE, and_true, and_self, go_sem, *, Nat.reduceLT, Int.reduceEq, Int.reduceBEq, Int.reduceLE, Int.reduceLT, Nat.reduceAdd, Nat.reduceBEq, Nat.reduceEqDiff, reduceIte, Nat.reduceLeDiff, Nat.reduceMul, Nat.reduceSub, reduceCtorEq]) (by simp only [keepL, and_true, and_self, go_sem, *, Nat.reduceLT, Int.reduceEq, Int.reduceBEq, Int.reduceLE, Int.reduceLT, Nat.reduceAdd, Nat.reduceBEq, Nat.reduceEqDiff, reduceIte, Nat.reduceLeDiff, Nat.reduceMul, Nat.reduceSub, reduceCtorEq]) ?_
        all_goals refine ⟨v', ?_, ?_, ?_, ?_, hX'⟩
        · simp only [go_sem, *, Nat.reduceLT, Int.reduceEq, Int.reduceBEq, Int.reduceLE, Int.reduceLT, Nat.reduceAdd, Nat.reduceBEq, Nat.reduceEqDiff, reduceIte, Nat.reduceLeDiff, Nat.reduceMul, Nat.reduceSub, reduceCtorEq]
        · rw [HQ1.out]; simp only [go_sem, *, Nat.reduceLT, Int.reduceEq, Int.reduceBEq, Int.reduceLE, Int.reduceLT, Nat.reduceAdd, Nat.reduceBEq, Nat.reduceEqDiff, reduceIte, Nat.reduceLeDiff, Nat.reduceMul, Nat.reduceSub, reduceCtorEq]
        · simp only [go_sem, *, Nat.reduceLT, Int.reduceEq, Int.reduceBEq, Int.reduceLE, Int.reduceLT, Nat.reduceAdd, Nat.reduceBEq, Nat.reduceEqDiff, reduceIte, Nat.reduceLeDiff, Nat.reduceMul, Nat.reduceSub, reduceCtorEq]
        · rw [HQ2.out, HRX.out, intsE_app]; exact hB'
  · have hd0 : decide ((k : Int) < ((n : Nat) : Int)) = false := by first | (simpa using hlt; done) | (simp only [decide_eq_false_iff_not]; omega)
    obtain rfl : k = n := by omega
    obtain ⟨h', hz, hz2, hz1, g1, g2⟩ := hB.freeze
    have hx2 : HExt h h' := ⟨by rw [g1]; exact hX.1, fun id hid => (g2 id hid).trans (hX.2 id hid)⟩
    have HX2 := Lib.hid hx2
    have hbo := hB.blt.out
    clear g1 g2 hx2 hX hB
    repeat' (first | refine goS ?_ | refine go2 (fun hh => ?_) (fun hh => ?_) | fail)
    all_goals simp only [resV_def (X := dX c) Tryz.func124, Tryz.results124, resultsV, resultV, go_sem, *, Nat.reduceLT, Int.reduceEq, Int.reduceBEq, Int.reduceLE, Int.reduceLT, Nat.reduceAdd, Nat.reduceBEq, Nat.reduceEqDiff, reduceIte, Nat.reduceLeDiff, Nat.reduceMul, Nat.reduceSub, reduceCtorEq, frzRes, dFrz, frzCells, isRet_ret, tupleOf]
    unfold roomR
    exact ⟨_, HX2.out, rfl⟩
end Go.AM
set_option linter.unusedSimpArgs false
set_option linter.unusedVariables false
set_option linter.unusedSectionVars false
namespace Go.AM
open Go
variable [Keep]
section
variable {X : Ctx} {ops : Array Oper} {K P : AV → Fr → Prop} {F : Fr} {d : Option Tmp} {T : TypeId} {p : String} {af : Array Edge}
end
section
variable {X : Ctx} {f : FuncId} {ops : Array Oper} {ts : List (Nat × Trace)} {i k j : Nat} {r : List (Nat × Nat)} {x y o : Oper} {d : Option Tmp} {op : Op} {T : TypeId} {ps : String} {af : Array Edge} {want b : Bool} {s : Tmp}
    {f1 f2 : FuncId} {r1 r2 : Bool} {e1 e2 : Mp AV} {lm1 lm2 : Mp (Nat × List AV)} {hp1 hp2 : Heap} {df1 df2 : List (AV × List AV)} {up1 up2 : Option (AV × Bool)} {v1 v2 : AV} {a1 a2 b2 : Fr}
theorem calmR (h1 : ops[i]? = some ⟨d, op, T, ps, af, none⟩) (h2 : ops[k]? = some y) (h3 : traceOf ts i = some ⟨Fr.mk f1 r1 e1 lm1 hp1 df1 up1, v1, a1⟩) (h4 : traceOf ts k = some ⟨b2, v2, Fr.mk f2 r2 e2 lm2 hp2 df2 up2⟩)
    (h5 : isEffD X f ⟨d, op, T, ps, af, none⟩ = false) (h7 : rdV X (Fr.mk f1 r1 e1 lm2 hp2 df1 up1) d op = some v1) (h8 : r.all (calmPair X f ops ts) = true) : ((i, k) :: r).all (calmPair X f ops ts) = true := by
  simp only [List.all_cons, h8, Bool.and_true, calmPair, h1, h2, h3, h4, h5, Bool.false_eq_true, if_false, rereads, wantedA, if_true, h7]
  exact AV.same_refl _
theorem calmE (h1 : ops[i]? = some x) (h2 : ops[k]? = some ⟨d, op, T, ps, af, none⟩) (h3 : traceOf ts i = some ⟨Fr.mk f1 r1 e1 lm1 hp1 df1 up1, v1, a1⟩) (h4 : traceOf ts k = some ⟨Fr.mk f2 r2 e2 lm2 hp2 df2 up2, v2, a2⟩)
    (h5 : isEffD X f x = true) (h7 : rdV X (Fr.mk f2 r2 e2 lm1 hp1 df2 up2) d op = some v2) (h8 : r.all (calmPair X f ops ts) = true) : ((i, k) :: r).all (calmPair X f ops ts) = true := by
  simp only [List.all_cons, h8, Bool.and_true, calmPair, h1, h2, h3, h4, h5, if_true, rereads, wantedA, h7]
  exact AV.same_refl _
theorem calmEnd : ([] : List (Nat × Nat)).all (calmPair X f ops ts) = true := rfl
end
end Go.AM
set_option linter.unusedSectionVars false
set_option linter.unusedVariables false
set_option linter.unusedSimpArgs false
set_option maxRecDepth 100000
namespace Go.AM
open Go Go.Proofs
variable [Keep]
attribute [local irreducible] W WO WO1 WD WQ WT thenQ blockQ endR isRet retK Cl ClR
open Go.TX (Rm Fa Ha Hs)
section
variable (c : FuncId → Option (List AV → Heap → Option (AV × Heap)))
theorem C180 (hc : c 180 = none) (a : Int) (id : Nat) (p : Rm) (h : Heap) (hg : h.get id = some (.var [.int .i64 p.lo, .int .i64 p.hi, .int .i64 p.mke, .int .i64 p.wt, .int .i64 p.stt])) : Cl (dX c) 180 (([] ++ [.int .i64 a]) ++ [.ptr id 0]) h (.ret (.int .i64 p.lo) h none) := by
  refine ClR.cl ?_
  refine ClR.walk (c := _) hc Tryz.func180 rfl (by kernel_rfl) rfl (fun e => by cases e) ?_
  simp only [entryEnv, Nat.reduceAdd, List.nil_append, List.cons_append]
  repeat' (first | refine goS ?_ | refine go2 (fun hh => ?_) (fun hh => ?_) | fail)
  all_goals simp only [resV_def (X := dX c) Tryz.func180, Tryz.results180, resultsV, resultV, go_sem, *, Nat.reduceLT, Int.reduceEq, Int.reduceBEq, Int.reduceLE, Int.reduceLT, Nat.reduceAdd, Nat.reduceBEq, Nat.reduceEqDiff, reduceIte, Nat.reduceLeDiff, Nat.reduceMul, Nat.reduceSub, reduceCtorEq, frzRes, dFrz, frzCells, isRet_ret, tupleOf]
  all_goals rfl
theorem C181 (hc : c 181 = none) (a : Int) (id : Nat) (p : Rm) (h : Heap) (hg : h.get id = some (.var [.int .i64 p.lo, .int .i64 p.hi, .int .i64 p.mke, .int .i64 p.wt, .int .i64 p.stt])) : Cl (dX c) 181 (([] ++ [.int .i64 a]) ++ [.ptr id 0]) h (.ret (.int .i64 p.hi) h none) := by
  refine ClR.cl ?_
  refine ClR.walk (c := _) hc Tryz.func181 rfl (by kernel_rfl) rfl (fun e => by cases e) ?_
  simp only [entryEnv, Nat.reduceAdd, List.nil_append, List.cons_append]
  repeat' (first | refine goS ?_ | refine go2 (fun hh => ?_) (fun hh => ?_) | fail)
  all_goals simp only [resV_def (X := dX c) Tryz.func181, Tryz.results181, resultsV, resultV, go_sem, *, Nat.reduceLT, Int.reduceEq, Int.reduceBEq, Int.reduceLE, Int.reduceLT, Nat.reduceAdd, Nat.reduceBEq, Nat.reduceEqDiff, reduceIte, Nat.reduceLeDiff, Nat.reduceMul, Nat.reduceSub, reduceCtorEq, frzRes, dFrz, frzCells, isRet_ret, tupleOf]
  all_goals rfl
end
def lowsP (m : Hs) (f : Fl) : Nat → List (List Int)
  | 0 => []
  | r + 1 => lowsP m f r ++ [rowF m f r (fun _ => (m.rooms.getD r rm0).lo) m.hours.toNat]
def highsP (m : Hs) (f : Fl) : Nat → List (List Int)
  | 0 => []
  | r + 1 => highsP m f r ++ [rowF m f r (fun _ => (m.rooms.getD r rm0).hi) m.hours.toNat]
def rowsE (g : List (List Int)) : List AV := g.map fun l => slN (intsE l)
theorem lows_len (m : Hs) (f : Fl) : ∀ r, (lowsP m f r).length = r ∧ (highsP m f r).length = r := by
  intro r
  induction r with
  | zero => exact ⟨rfl, rfl⟩
  | succ r ih => simp [lowsP, highsP, ih.1, ih.2]
theorem lows_succ (m : Hs) (f : Fl) (r : Nat) : lowsP m f (r + 1) = lowsP m f r ++ [rowF m f r (fun _ => (m.rooms.getD r rm0).lo) m.hours.toNat] ∧ highsP m f (r + 1) = highsP m f r ++ [rowF m f r (fun _ => (m.rooms.getD r rm0).hi) m.hours.toNat] := ⟨rfl, rfl⟩
theorem rowsE_len (g : List (List Int)) : (rowsE g).length = g.length := by unfold rowsE; rw [List.length_map]
theorem rowsE_app (g : List (List Int)) (l : List Int) : rowsE (g ++ [l]) = rowsE g ++ [slN (intsE l)] := by simp [rowsE]
def boundsE (m : Hs) (f : Fl) : AV := .agg [slN (rowsE (lowsP m f m.rooms.length)), slN (rowsE (highsP m f m.rooms.length))]
def walkB (m : Hs) : Bool := decide (0 ≤ m.hours) && decide (m.hours ≤ 1000) && decide (m.op.length = m.hours.toNat) && decide (m.fans.length ≤ 1000) && decide (m.rooms.length ≤ 1000)
def sp137 : List AV → Option AV
  | [.agg [.int .i64 n, ra, fa, oa, ha, fv]] => match hsV (.agg [.int .i64 n, ra, fa, oa, ha]), flV fv with
    | some m, some f => if walkB m = true then some (boundsE m f) else none
    | _, _ => none
  | _ => none
theorem rowsE_pur (g : List (List Int)) : (slN (rowsE g)).pur = true := by
  refine (slN_is _).pur fun x hx => ?_
  unfold rowsE at hx
  obtain ⟨l, _, rfl⟩ := List.mem_map.1 hx
  exact (slN_is _).pur (enc_pur intC l)
theorem p137 : ∀ args v, sp137 args = some v → v.pur = true := by
  intro args v h
  unfold sp137 at h
  split at h
  · split at h
    · split at h
      · cases h
        simp only [boundsE, AV.pur, AV.purL, rowsE_pur, Bool.and_self]
      · cases h
    · cases h
  · cases h
noncomputable def cYH : FuncId → Option (List AV → Heap → Option (AV × Heap))
  | 102 => some (pureFn sp102)
  | 89 => some (pureFn sp89)
  | 171 => some (flatFnD sp171)
  | _ => none
theorem cYH_sound : Sound (dX cYH) := dX_sound (fun f g h => by
  unfold cYH at h
  split at h
  · cases h; exact F102
  · cases h; exact F89
  · cases h; exact F171D
  · cases h)
attribute [local irreducible] rowF lowsP highsP roomR rowsE
set_option maxHeartbeats 8000000 in
theorem F137 : IntrFn Tryz.prog 137 (pureFn sp137) := by
  refine pure_fn (X := dX cYH) cYH_sound p137 ?_
  intro args v h
  unfold sp137 at h
  split at h
  · rename_i n ra fa oa ha fv
    split at h
    · rename_i m f hm hfv
      split at h
      · rename_i hw
        have h := Option.some.inj h
        subst h
        obtain rfl := flV_is hfv
        obtain ⟨ra', fa', oa', ha', heq, v1, v2, v3, v4⟩ := hsV_is hm
        cases heq
        unfold walkB at hw
        simp only [Bool.and_eq_true, decide_eq_true_eq] at hw
        obtain ⟨⟨⟨⟨w1, w2⟩, w3⟩, w4⟩, w5⟩ := hw
        obtain ⟨nn, hnn⟩ : ∃ nn : Nat, m.hours = nn := ⟨m.hours.toNat, by omega⟩
        have hnt : m.hours.toNat = nn := by omega
        have l1 := sl_len v1
        have o1 := sl_out v1
        have o2 := sl_out v2
        have o3 := sl_out v3
        have o4 := sl_out v4
        have hroom := fun (r : Nat) (hrl : r < m.rooms.length) (g : FuncId) (first capt : List AV) (md : Nat → Int) (h : Heap) hmd => C124 cYH rfl rfl rfl rfl rfl rfl rfl rfl rfl rfl rfl m f ra fa oa ha v1 v2 v3 o4 nn hnn (by omega) (by omega) w4 r hrl g first capt md h hmd
        obtain ⟨fo, fcl, fit, _⟩ := fl_parts f
        simp only [AV.cells] at fcl
        simp only [isTuple] at fit
        unfold boundsE
        rw [hnn] at hroom ⊢
        have H1 := Lib.hid v1
        have HROOM := Lib.hid hroom
        have HNT := Lib.hid hnt
        clear v1 v2 v3 v4 hroom hm hfv hnt w1 w2 w3 hnn
        generalize f.enc = fv at *
        refine ClR.walk (c := _) rfl Tryz.func137 rfl (by kernel_rfl) rfl isRet_fail ?_
        simp only [entryEnv, Nat.reduceAdd, emptyHp]
        repeat' (first | refine goS ?_ | refine go2 (fun hh => ?_) (fun hh => ?_) | fail)
        refine W.loopV (m.rooms.length) [1, 2, 3, 8, 9] [1, 2] (fun k e lm hp => ∃ u1 u2, e.get 10 = some (.int .i64 ↑k) ∧ lm.get 3 = some (0, [u1, u2]) ∧ BltN 0 hp u1 1 (rowsE (lowsP m f k)) ∧ BltN 0 hp u2 1 (rowsE (highsP m f k)) ∧ SepV u1 u2) ?_ ?_
        · skip
          refine ⟨.nilslice, .nilslice, ?_, ?_, ?_, ?_, SepV.nil _⟩
          · simp [go_sem, *]
          · simp only [go_sem, *, Nat.reduceLT, Int.reduceEq, Int.reduceBEq, Int.reduceLE, Int.reduceLT, Nat.reduceAdd, Nat.reduceBEq, Nat.reduceEqDiff, reduceIte, Nat.reduceLeDiff, Nat.reduceMul, Nat.reduceSub, reduceCtorEq]
          · unfold lowsP rowsE; exact BltN.nil
          · unfold highsP rowsE; exact BltN.nil
        intro k e lm hp hk0 hce hcl hinv
        simp only [keepE, and_true] at hce
        obtain ⟨c1, c2, c3, c8, c9⟩ := hce
        simp only [go_sem, *, Nat.reduceLT, Int.reduceEq, Int.reduceBEq, Int.reduceLE, Int.reduceLT, Nat.reduceAdd, Nat.reduceBEq, Nat.reduceEqDiff, reduceIte, Nat.reduceLeDiff, Nat.reduceMul, Nat.reduceSub, reduceCtorEq] at c1 c2 c3 c8 c9
        simp only [keepL, and_true] at hcl
        obtain ⟨d1, d2⟩ := hcl
        simp only [go_sem, *, Nat.reduceLT, Int.reduceEq, Int.reduceBEq, Int.reduceLE, Int.reduceLT, Nat.reduceAdd, Nat.reduceBEq, Nat.reduceEqDiff, reduceIte, Nat.reduceLeDiff, Nat.reduceMul, Nat.reduceSub, reduceCtorEq] at d1 d2
        obtain ⟨u1, u2, h10, g3, hA1, hA2, hS⟩ := hinv
        by_cases hlt : k < m.rooms.length
        · have hd0 : decide ((k : Int) < ((m.rooms.length : Nat) : Int)) = true := by first | (simpa using hlt; done) | (simp only [decide_eq_true_eq]; omega)
          have hv_0 := wrap_succ hlt (by unfold maxL; omega)
          obtain ⟨hpn, hpm⟩ := hp
          obtain ⟨p, hp'⟩ := get_some hlt
          have hix := fun H => rms_idx H1.out hp' H
          have hgp : m.rooms.getD k rm0 = p := by simp [List.getD, hp']
          obtain ⟨q1, q2, q3⟩ := hA1.parts
          obtain ⟨q4, q5, q6⟩ := hA2.parts
          simp only [AV.cells] at q2 q5
          simp only [isTuple] at q3 q6
          obtain ⟨s1, s2⟩ := lows_succ m f k
          rw [hgp, HNT.out] at s1 s2
          have hr1 := fun H hmd => HROOM.out k hlt 180 [] [.ptr hpn 0] (fun _ => p.lo) H hmd
          have hr2 := fun H hmd => HROOM.out k hlt 181 [] [.ptr hpn 0] (fun _ => p.hi) H hmd
          generalize rowF m f k (fun _ => p.lo) nn = w1 at *
          generalize rowF m f k (fun _ => p.hi) nn = w2 at *
          have hk1 : (rowsE (lowsP m f k)).length + 1 ≤ most := by rw [rowsE_len, (lows_len m f k).1]; unfold most; omega
          have hk2 : (rowsE (highsP m f k)).length + 1 ≤ most := by rw [rowsE_len, (lows_len m f k).2]; unfold most; omega
          have HK1 := Lib.hid hk1
          have HK2 := Lib.hid hk2
          have HR1 := Lib.hid hr1
          have HR2 := Lib.hid hr2
          have HS1 := Lib.hid s1
          have HS2 := Lib.hid s2
          have HA1 := Lib.hid hA1
          have HA2 := Lib.hid hA2
          have HS := Lib.hid hS
          have HLT0 := Lib.hid hlt
          clear hA1 hA2 hS hp' hlt s1 s2 hr1 hr2 hgp hk1 hk2
          repeat' (first | refine goS ?_ | refine go2 (fun hh => ?_) (fun hh => ?_) | fail)
          generalize hz1 : Heap.mk (hpn + 1) ((hpm.set hpn (Blk.var [AV.int IntKind.i64 0, AV.int IntKind.i64 0, AV.int IntKind.i64 0, AV.int IntKind.i64 0, AV.int IntKind.i64 0])).set hpn (Blk.var [AV.int IntKind.i64 p.lo, AV.int IntKind.i64 p.hi, AV.int IntKind.i64 p.mke, AV.int IntKind.i64 p.wt, AV.int IntKind.i64 p.stt])) = z1
          have hg1 : z1.get hpn = some (.var [.int .i64 p.lo, .int .i64 p.hi, .int .i64 p.mke, .int .i64 p.wt, .int .i64 p.stt]) := by
            rw [← hz1]; simp only [Heap.get, Mp.get_set, if_true]
          have hx1 : HExt ⟨hpn, hpm⟩ z1 := by
            rw [← hz1]
            refine ⟨Nat.le_succ _, fun id hid => ?_⟩
            have hid' : id < hpn := hid
            have : ¬ hpn = id := by omega
            simp only [Heap.get, Mp.get_set, if_neg this]
          have hn1 : z1.next = hpn + 1 := by rw [← hz1]
          clear hz1
          have hr1 := HR1.out z1 (fun a H ha hx => C180 cYH rfl _ hpn p H ((hx.2 hpn (by rw [hn1]; exact Nat.lt_succ_self _)).trans hg1))
          unfold ClR roomR at hr1
          obtain ⟨_, hcl1, z2, hx2, rfl⟩ := hr1
          have hA := (HA1.out.keep hx1).keep hx2
          have hx12 := hx1.trans hx2
          have HX12 := Lib.hid hx12
          have hg2 := (hx2.2 hpn (by rw [hn1]; exact Nat.lt_succ_self _)).trans hg1
          have hn2 : hpn < z2.next := Nat.lt_of_lt_of_le (by rw [hn1]; exact Nat.lt_succ_self _) hx2.1
          have hu1 : ∀ off n, u1 ≠ .row hpn off n := by
            intro off n e
            rcases HA1.out with ⟨e2, _⟩ | ⟨i, e2, _, _, h4, _⟩
            · rw [e2] at e; cases e
            · rw [e2] at e
              cases e
              exact Nat.lt_irrefl _ h4
          have hll := HK1.out
          have hi1 := (slN_is (intsE w1))
          have hsc : (slN (intsE w1)).cells.length = 1 := by rw [hi1.cells]; rfl
          have hw1 := hi1.out
          have hw2 := hi1.cells
          have hw3 := hi1.tup
          have HU1 := Lib.hid hu1
          have HG2 := Lib.hid hg2
          have HN2 := Lib.hid hn2
          clear hg1 hx1 hn1 hx2 hx12 hu1 hg2 hi1 hn2
          generalize hsl : slN (intsE w1) = y1 at *
          have HSL := Lib.hid hsl
          clear hsl
          simp only [AV.cells] at hw2
          simp only [isTuple] at hw3
          repeat' (first | (apply W.draw (id := 5) (lc := [0, 1, 2, 3, 4, 5, 6, 7, 8, 9]) (hot := [(1, 5)]); kernel_rfl; kernel_rfl; kernel_rfl; exact Z4) | (apply WD.cons (o := ⟨some 23, _, _, _, _, none⟩); exact rfl; exact rfl) | (apply WD.cons (o := ⟨none, .store 36 (.tmp 23) (.tmp 22), _, _, _, none⟩); exact rfl; exact rfl) | (refine WD.cons rfl rfl ?_) | (refine WD.nil ⟨?_, ?_⟩; rotate_left; simp only [tN, bN, eN, true_and]) | (refine calmR rfl rfl rfl rfl rfl ?_ ?_; (focus (first | exact Z2 | exact Z1))) | (refine calmE rfl rfl rfl rfl rfl ?_ ?_; (focus (first | exact Z2 | exact Z1))) | (with_reducible refine calmEnd) | (apply WO1.appendX (t := 36) (u := 36) (e := 24) (e' := 24) (sz := 1) (tl := []) (b := 0) (h0 := ⟨0, .nil⟩) (hb := hA) (hx := ⟨Nat.zero_le _, fun id h => absurd h (Nat.not_lt_zero id)⟩); exact Z1; exact rfl; exact Z2; exact Z2; exact Z2; (focus (exact ty_row36)); exact Z1; (focus (intro v hv; simp at hv; subst hv; exact hsc)); (focus (simp only [List.length_map, List.length_cons, List.length_nil]; exact hll)); (focus (simp)); (intro v' h' hB' ho' hK' hE' hX'; have hcc' := hB'.blt.cells; have htt' := hB'.blt.tup; simp only [AV.cells] at hcc'; simp only [isTuple] at htt'; simp only [pM, pN])) | refine go1 ?_ | (apply U6; exact Z1; exact Z1; (focus (simp only [List.nil_append, List.append_nil]; first | exact hcl1)); simp only [pM, pN, rR, rP]) | refine go2 (fun hh => ?_) (fun hh => ?_) | fail)
          have hA0 := HA2.out.keep HX12.out
          have hsv : SepV u2 v' := by rw [hE']; exact SepV.new hA0
          have hA := hA0.apart hK' HS.out.symm
          have hg3 := (hK'.2 hpn HN2.out HU1.out).trans HG2.out
          have hn3 : hpn < h'.next := Nat.lt_of_lt_of_le HN2.out hK'.1
          have HV := Lib.hid hB'
          have HSV := Lib.hid hsv
          generalize h' = z3 at *
          generalize v' = v3 at *
          have hcl3 := hcc'
          have htu3 := htt'
          have hou3 := ho'
          have HE3 := Lib.hid hE'
          clear hA0 hsv hB' hK' hE' hX' ho' hcl1 hll hcc' htt'
          have hr2 := HR2.out z3 (fun a H ha hx => C181 cYH rfl _ hpn p H ((hx.2 hpn hn3).trans hg3))
          unfold ClR roomR at hr2
          obtain ⟨_, hcl2, z4, hx4, rfl⟩ := hr2
          have HV4 := Lib.hid (HV.out.keep hx4)
          replace hA := hA.keep hx4
          have hll := HK2.out
          have hi1 := (slN_is (intsE w2))
          have hsc : (slN (intsE w2)).cells.length = 1 := by rw [hi1.cells]; rfl
          have hy1 := hi1.out
          have hy2 := hi1.cells
          have hy3 := hi1.tup
          clear hg3 hn3 hx4 hi1
          generalize hsl : slN (intsE w2) = y2 at *
          have HSL2 := Lib.hid hsl
          clear hsl
          simp only [AV.cells] at hy2
          simp only [isTuple] at hy3
          repeat' (first | (apply W.draw (id := 6) (lc := [0, 1, 2, 3, 4, 5, 6, 7, 8, 9]) (hot := [(1, 5)]); kernel_rfl; kernel_rfl; kernel_rfl; exact Z4) | (apply WD.cons (o := ⟨some 32, _, _, _, _, none⟩); exact rfl; exact rfl) | (apply WD.cons (o := ⟨none, .store 36 (.tmp 32) (.tmp 31), _, _, _, none⟩); exact rfl; exact rfl) | (refine WD.cons rfl rfl ?_) | (refine WD.nil ⟨?_, ?_⟩; rotate_left; simp only [tN, bN, eN, true_and]) | (refine calmR rfl rfl rfl rfl rfl ?_ ?_; (focus (first | exact Z2 | exact Z1))) | (refine calmE rfl rfl rfl rfl rfl ?_ ?_; (focus (first | exact Z2 | exact Z1))) | (with_reducible refine calmEnd) | (apply WO1.appendX (t := 36) (u := 36) (e := 24) (e' := 24) (sz := 1) (tl := []) (b := 0) (h0 := ⟨0, .nil⟩) (hb := hA) (hx := ⟨Nat.zero_le _, fun id h => absurd h (Nat.not_lt_zero id)⟩); exact Z1; exact rfl; exact Z2; exact Z2; exact Z2; (focus (exact ty_row36)); exact Z1; (focus (intro v hv; simp at hv; subst hv; exact hsc)); (focus (simp only [List.length_map, List.length_cons, List.length_nil]; exact hll)); (focus (simp)); (intro v' h' hB' ho' hK' hE' hX'; have hcc' := hB'.blt.cells; have htt' := hB'.blt.tup; simp only [AV.cells] at hcc'; simp only [isTuple] at htt'; simp only [pM, pN])) | refine go1 ?_ | (apply U6; exact Z1; exact Z1; (focus (simp only [List.nil_append, List.append_nil]; first | exact hcl2)); simp only [pM, pN, rR, rP]) | refine go2 (fun hh => ?_) (fun hh => ?_) | fail)
          all_goals refine contV_mk (by first | assumption | exact HLT0.out) (by simp only [keepE, and_true, and_self, go_sem, *, Nat.reduceLT, Int.reduceEq, Int.reduceBEq, Int.reduceLE, Int.reduceLT, Nat.reduceAdd, Nat.reduceBEq, Nat.reduceEqDiff, reduceIte, Nat.reduceLeDiff, Nat.reduceMul, Nat.reduceSub, reduceCtorEq]) (by simp only [keepL, and_true, and_self, go_sem, *, Nat.reduceLT, Int.reduceEq, Int.reduceBEq, Int.reduceLE, Int.reduceLT, Nat.reduceAdd, Nat.reduceBEq, Nat.reduceEqDiff, reduceIte, Nat.reduceLeDiff, Nat.reduceMul, Nat.reduceSub, reduceCtorEq]) ?_
          all_goals refine ⟨v3, v', ?_, ?_, ?_, ?_, ?_⟩
          all_goals first | exact Z2 | skip
          · simp [HE3.out, hE']
          · rw [HS1.out, rowsE_app, HSL.out]
            exact HV4.out.apart hK' HSV.out.symm
          · rw [HS2.out, rowsE_app, HSL2.out]
            exact hB'
          · rw [hE']
            exact SepV.new HV4.out
        · have hd0 : decide ((k : Int) < ((m.rooms.length : Nat) : Int)) = false := by first | (simpa using hlt; done) | (simp only [decide_eq_false_iff_not]; omega)
          obtain rfl : k = m.rooms.length := by omega
          clear HROOM
          obtain ⟨q1, q2, q3⟩ := hA1.parts
          obtain ⟨q4, q5, q6⟩ := hA2.parts
          simp only [AV.cells] at q2 q5
          simp only [isTuple] at q3 q6
          obtain ⟨z1, y1, y2, y3, e1, p1⟩ := hA1.freeze
          have hA2' := hA2.afterFrz y3 e1 p1 hS.symm
          obtain ⟨z2, y4, y5, y6, e2, p2⟩ := hA2'.freeze
          clear hA1 hA2 hA2' p1 p2 hS e1 e2
          repeat' (first | refine goS ?_ | refine go2 (fun hh => ?_) (fun hh => ?_) | fail)
          all_goals simp only [resV_def (X := dX cYH) Tryz.func137, Tryz.results137, resultsV, resultV, go_sem, *, Nat.reduceLT, Int.reduceEq, Int.reduceBEq, Int.reduceLE, Int.reduceLT, Nat.reduceAdd, Nat.reduceBEq, Nat.reduceEqDiff, reduceIte, Nat.reduceLeDiff, Nat.reduceMul, Nat.reduceSub, reduceCtorEq, frzRes, dFrz, frzCells, isRet_ret, tupleOf]
      · cases h
    · cases h
  · cases h
end Go.AM
