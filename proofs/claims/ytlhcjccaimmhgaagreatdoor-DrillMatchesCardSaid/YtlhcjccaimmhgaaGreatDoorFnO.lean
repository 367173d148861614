/-
  Orders that are proposed.
-/
import Derived.Test.YtlhcjccaimmhgaaGreatDoorFnM
import Derived.Test.YtlhcjccaimmhgaaGreatDoorShared
set_option linter.unusedSectionVars false
set_option linter.unusedVariables false
set_option linter.unusedSimpArgs false
set_option maxRecDepth 100000
namespace Go.AM
open Go Go.Proofs
variable [Keep]
attribute [local irreducible] W WO WO1 WD WQ WT thenQ blockQ endR isRet retK Cl ClR
theorem calm_rd {X : Ctx} {f : FuncId} {ops : Array Oper} {ts : List (Nat × Trace)} {i k : Nat} {r : List (Nat × Nat)} {y : Oper} {d : Option Tmp} {op : Op} {T : TypeId} {ps : String} {af : Array Edge}
    {f1 f2 : FuncId} {r1 r2 : Bool} {e1 e2 : Mp AV} {lm1 lm2 : Mp (Nat × List AV)} {hp1 hp2 : Heap} {df1 df2 : List (AV × List AV)} {up1 up2 : Option (AV × Bool)} {v1 v2 : AV} {a1 b2 : Fr}
    (h1 : ops[i]? = some ⟨d, op, T, ps, af, none⟩) (h2 : ops[k]? = some y) (h3 : traceOf ts i = some ⟨Fr.mk f1 r1 e1 lm1 hp1 df1 up1, v1, a1⟩) (h4 : traceOf ts k = some ⟨b2, v2, Fr.mk f2 r2 e2 lm2 hp2 df2 up2⟩)
    (h5 : isEffD X f ⟨d, op, T, ps, af, none⟩ = false) (h7 : rdV X (Fr.mk f1 r1 e1 lm2 hp2 df1 up1) d op = some v1) (h8 : r.all (calmPair X f ops ts) = true) : ((i, k) :: r).all (calmPair X f ops ts) = true := by
  simp only [List.all_cons, h8, Bool.and_true, calmPair, h1, h2, h3, h4, h5, Bool.false_eq_true, if_false, rereads, wantedA, if_true, h7]
  exact AV.same_refl _
def befB : List Int → List Int → Bool
  | [], r => !r.isEmpty
  | _ :: _, [] => false
  | a :: l, b :: r => if a = b then befB l r else decide (a < b)
theorem bef_step {l r : List Int} {i : Nat} {a b : Int} (ha : l[i]? = some a) (hb : r[i]? = some b) : befB (l.drop i) (r.drop i) = if a = b then befB (l.drop (i + 1)) (r.drop (i + 1)) else decide (a < b) := by
  have h1 : i < l.length := by
    rcases Nat.lt_or_ge i l.length with h' | h'
    · exact h'
    · rw [List.getElem?_eq_none h'] at ha; cases ha
  have h2 : i < r.length := by
    rcases Nat.lt_or_ge i r.length with h' | h'
    · exact h'
    · rw [List.getElem?_eq_none h'] at hb; cases hb
  rw [List.drop_eq_getElem_cons h1, List.drop_eq_getElem_cons h2]
  rw [List.getElem?_eq_getElem h1] at ha
  rw [List.getElem?_eq_getElem h2] at hb
  rw [Option.some.inj ha, Option.some.inj hb]
  rfl
theorem bef_end {l r : List Int} {i : Nat} (hi : i ≤ l.length) (hj : i ≤ r.length) (he : ¬ (i < l.length ∧ i < r.length)) : befB (l.drop i) (r.drop i) = decide ((l.length : Int) < (r.length : Int)) := by
  by_cases h1 : i < l.length
  · have h2 : i = r.length := by omega
    rw [h2, List.drop_length, List.drop_eq_getElem_cons (by omega)]
    show false = _
    symm
    simp
    omega
  · have h2 : i = l.length := by omega
    rw [h2, List.drop_length]
    show (!(r.drop l.length).isEmpty) = _
    rw [Bool.eq_iff_iff]
    simp
def sp37 : List AV → Option AV
  | [a, b] => match slV intC a, slV intC b with
    | some l, some r => some (.bool (befB l r))
    | _, _ => none
  | _ => none
theorem p37 : ∀ args v, sp37 args = some v → v.pur = true := by
  intro args v h
  unfold sp37 at h
  split at h
  · split at h
    · cases h; rfl
    · cases h
  · cases h
attribute [local irreducible] befB
set_option maxHeartbeats 2000000 in
theorem F37 : IntrFn Tryz.prog 37 (pureFn sp37) := by
  refine pure_fn (X := dX cGA) cGA_sound p37 ?_
  intro args v h
  unfold sp37 at h
  split at h
  · rename_i a b
    split at h
    · rename_i l r ha hb
      have h := Option.some.inj h
      subst h
      have ol := sl_out ha
      have orr := sl_out hb
      have ll := sl_len ha
      have lr := sl_len hb
      have ml := sl_max ha
      have HA := Lib.hid ha
      have HB := Lib.hid hb
      generalize hres : befB l r = res
      have HR := Lib.hid hres
      clear hres ha hb
      refine ClR.walk (c := _) rfl Tryz.func37 rfl (by kernel_rfl) rfl isRet_fail ?_
      simp only [entryEnv, Nat.reduceAdd, emptyHp]
      repeat' (first | (refine ⟨⟨trivial, trivial⟩, ?_⟩) | (refine ⟨⟨rfl, rfl⟩, ?_⟩) | (refine WQ.cons rfl rfl ?_) | (refine WT.cons rfl rfl ?_) | (refine WQ.nil ?_) | (refine WT.nil ?_; simp only [tN, bN, eN, true_and]) | (apply WQ.alloc; exact rfl; exact rfl; exact payR; simp only [pM, pN]) | refine W.seq ?_ | refine W.region ?_ | refine W.block ?_ | refine W.scope ?_ | refine WO.cons ?_ | (refine WO.nil ?_; simp only [tN, bN, eN, true_and]) | (apply WO1.rd; exact payR; exact rfl; simp only [pM, pN, rR, rP]) | (refine WO1.gyes (b := true) rfl rfl ?_ rfl ?_; exact payD) | (refine WO1.gno (b := true) rfl rfl ?_ rfl ?_; exact payD; simp only [pM, pN, rR, rP]) | (refine WO1.gyes (b := false) rfl rfl ?_ rfl ?_; exact payD) | (refine WO1.gno (b := false) rfl rfl ?_ rfl ?_; exact payD; simp only [pM, pN, rR, rP]) | (apply WO1.gsplit; exact rfl; exact rfl; exact payR; refine ⟨fun hh => ?_, fun hh => ?_⟩ <;> try simp only [Bool.not_true, Bool.not_false, pM, pN] at hh ⊢) | (apply WO1.ef; exact rfl; exact payE; simp only [pM, pN, rR, rP]) | (simp only [tP, bP, eP, true_and]) | (refine W.ret ?_; simp only [tR, bR, eR, true_and]) | (refine W.skip ?_; simp only [tN, bN, eN, true_and]) | (refine W.exit ?_; simp only [tX, bS, bO, Nat.reduceBEq, tN, bN]) | (refine W.condT ?_ ?_; exact payD) | (refine W.condF ?_ ?_; exact payD) | (apply W.condB; exact payR; refine ⟨fun hh => ?_, fun hh => ?_⟩))
      refine W.loopN (min l.length r.length) (fun i F => ∃ e, F = Fr.mk 37 false e .nil ⟨0, .nil⟩ [] none ∧ befB (l.drop i) (r.drop i) = res ∧ e.get 0 = some a ∧ e.get 1 = some b ∧ e.get 5 = some (.int .i64 ↑i) ∧ i ≤ min l.length r.length) ?_ ?_
      · refine ⟨_, rfl, HR.out, ?_, ?_, ?_, ?_⟩ <;> first | exact payD | simp [go_sem, *, Nat.reduceLT, Int.reduceEq, Int.reduceBEq, Int.reduceLE, Int.reduceLT, Nat.reduceAdd, Nat.reduceBEq, Nat.reduceEqDiff, reduceIte, Nat.reduceLeDiff, Nat.reduceMul, Nat.reduceSub, reduceCtorEq]
      rintro i F ⟨e, rfl, hbf, h0, h1, h5, hi⟩
      have HBF := Lib.hid hbf
      clear hbf
      have hi2 : i ≤ l.length ∧ i ≤ r.length := by omega
      have HI := Lib.hid hi2
      clear hi hi2
      by_cases hl : i < l.length
      · have hd : decide ((i : Int) < (l.length : Int)) = true := by simpa using hl
        by_cases hr : i < r.length
        · have hd2 : decide ((i : Int) < (r.length : Int)) = true := by simpa using hr
          have hw := wrap_succ hl ml
          obtain ⟨x, hx⟩ := get_some hl
          obtain ⟨y, hy⟩ := get_some hr
          have hix := int_idx HA.out hx
          have hiy := int_idx HB.out hy
          have hst := bef_step hx hy
          have HST := Lib.hid hst
          have HLT := Lib.hid (show i < min l.length r.length by omega)
          clear hx hy hst hl hr
          by_cases hxy : x = y
          · have hb1 : (x != y) = false := by simp [hxy]
            have HXY := Lib.hid hxy
            clear hxy
            repeat' (first | (apply W.drawQ (id := 4) (l1 := [0, 1, 2, 3, 4, 5, 6, 7, 8]) (l2 := []); kernel_rfl; kernel_rfl; kernel_rfl; exact payP) | (apply W.drawQ (id := 5) (l1 := [0, 1, 2, 3, 4, 5, 6, 7, 8, 9]) (l2 := []); kernel_rfl; kernel_rfl; kernel_rfl; exact payP) | (refine ⟨⟨trivial, trivial⟩, ?_⟩) | (refine ⟨⟨rfl, rfl⟩, ?_⟩) | (refine WQ.cons rfl rfl ?_) | (refine WT.cons rfl rfl ?_) | (refine WQ.nil ?_) | (refine WT.nil ?_; simp only [tN, bN, eN, true_and]) | (apply WQ.alloc; exact rfl; exact rfl; exact payR; simp only [pM, pN]) | refine W.seq ?_ | refine W.region ?_ | refine W.block ?_ | refine W.scope ?_ | refine WO.cons ?_ | (refine WO.nil ?_; simp only [tN, bN, eN, true_and]) | (apply WO1.rd; exact payR; exact rfl; simp only [pM, pN, rR, rP]) | (refine WO1.gyes (b := true) rfl rfl ?_ rfl ?_; exact payD) | (refine WO1.gno (b := true) rfl rfl ?_ rfl ?_; exact payD; simp only [pM, pN, rR, rP]) | (refine WO1.gyes (b := false) rfl rfl ?_ rfl ?_; exact payD) | (refine WO1.gno (b := false) rfl rfl ?_ rfl ?_; exact payD; simp only [pM, pN, rR, rP]) | (apply WO1.gsplit; exact rfl; exact rfl; exact payR; refine ⟨fun hh => ?_, fun hh => ?_⟩ <;> try simp only [Bool.not_true, Bool.not_false, pM, pN] at hh ⊢) | (apply WO1.ef; exact rfl; exact payE; simp only [pM, pN, rR, rP]) | (simp only [tP, bP, eP, true_and]) | (refine W.ret ?_; simp only [tR, bR, eR, true_and]) | (refine W.skip ?_; simp only [tN, bN, eN, true_and]) | (refine W.exit ?_; simp only [tX, bS, bO, Nat.reduceBEq, tN, bN]) | (refine W.condT ?_ ?_; exact payD) | (refine W.condF ?_ ?_; exact payD) | (apply W.condB; exact payR; refine ⟨fun hh => ?_, fun hh => ?_⟩))
            refine ⟨HLT.out, _, rfl, ?_, ?_, ?_, ?_, ?_⟩
            · rw [← HBF.out, HST.out, if_pos HXY.out]
            all_goals first | exact payD | (have := HLT.out; omega)
          · have hb1 : (x != y) = true := by simp [hxy]
            have HXY := Lib.hid hxy
            clear hxy
            repeat' (first | (apply W.drawQ (id := 4) (l1 := [0, 1, 2, 3, 4, 5, 6, 7, 8]) (l2 := []); kernel_rfl; kernel_rfl; kernel_rfl; exact payP) | (apply W.drawQ (id := 5) (l1 := [0, 1, 2, 3, 4, 5, 6, 7, 8, 9]) (l2 := []); kernel_rfl; kernel_rfl; kernel_rfl; exact payP) | (refine ⟨⟨trivial, trivial⟩, ?_⟩) | (refine ⟨⟨rfl, rfl⟩, ?_⟩) | (refine WQ.cons rfl rfl ?_) | (refine WT.cons rfl rfl ?_) | (refine WQ.nil ?_) | (refine WT.nil ?_; simp only [tN, bN, eN, true_and]) | (apply WQ.alloc; exact rfl; exact rfl; exact payR; simp only [pM, pN]) | refine W.seq ?_ | refine W.region ?_ | refine W.block ?_ | refine W.scope ?_ | refine WO.cons ?_ | (refine WO.nil ?_; simp only [tN, bN, eN, true_and]) | (apply WO1.rd; exact payR; exact rfl; simp only [pM, pN, rR, rP]) | (refine WO1.gyes (b := true) rfl rfl ?_ rfl ?_; exact payD) | (refine WO1.gno (b := true) rfl rfl ?_ rfl ?_; exact payD; simp only [pM, pN, rR, rP]) | (refine WO1.gyes (b := false) rfl rfl ?_ rfl ?_; exact payD) | (refine WO1.gno (b := false) rfl rfl ?_ rfl ?_; exact payD; simp only [pM, pN, rR, rP]) | (apply WO1.gsplit; exact rfl; exact rfl; exact payR; refine ⟨fun hh => ?_, fun hh => ?_⟩ <;> try simp only [Bool.not_true, Bool.not_false, pM, pN] at hh ⊢) | (apply WO1.ef; exact rfl; exact payE; simp only [pM, pN, rR, rP]) | (simp only [tP, bP, eP, true_and]) | (refine W.ret ?_; simp only [tR, bR, eR, true_and]) | (refine W.skip ?_; simp only [tN, bN, eN, true_and]) | (refine W.exit ?_; simp only [tX, bS, bO, Nat.reduceBEq, tN, bN]) | (refine W.condT ?_ ?_; exact payD) | (refine W.condF ?_ ?_; exact payD) | (apply W.condB; exact payR; refine ⟨fun hh => ?_, fun hh => ?_⟩))
            all_goals simp only [resV_def (X := dX cGA) Tryz.func37, Tryz.results37, resultsV, resultV, go_sem, *, Nat.reduceLT, Int.reduceEq, Int.reduceBEq, Int.reduceLE, Int.reduceLT, Nat.reduceAdd, Nat.reduceBEq, Nat.reduceEqDiff, reduceIte, Nat.reduceLeDiff, Nat.reduceMul, Nat.reduceSub, reduceCtorEq, frzRes, dFrz, frzCells, isRet_ret, tupleOf]
            rw [← HBF.out, HST.out, if_neg HXY.out]
        · have hd2 : decide ((i : Int) < (r.length : Int)) = false := by simpa using hr
          have HE := Lib.hid (bef_end (l := l) (r := r) HI.out.1 HI.out.2 (fun h => hr h.2))
          clear hr hl
          repeat' (first | (refine ⟨⟨trivial, trivial⟩, ?_⟩) | (refine ⟨⟨rfl, rfl⟩, ?_⟩) | (refine WQ.cons rfl rfl ?_) | (refine WT.cons rfl rfl ?_) | (refine WQ.nil ?_) | (refine WT.nil ?_; simp only [tN, bN, eN, true_and]) | (apply WQ.alloc; exact rfl; exact rfl; exact payR; simp only [pM, pN]) | refine W.seq ?_ | refine W.region ?_ | refine W.block ?_ | refine W.scope ?_ | refine WO.cons ?_ | (refine WO.nil ?_; simp only [tN, bN, eN, true_and]) | (apply WO1.rd; exact payR; exact rfl; simp only [pM, pN, rR, rP]) | (refine WO1.gyes (b := true) rfl rfl ?_ rfl ?_; exact payD) | (refine WO1.gno (b := true) rfl rfl ?_ rfl ?_; exact payD; simp only [pM, pN, rR, rP]) | (refine WO1.gyes (b := false) rfl rfl ?_ rfl ?_; exact payD) | (refine WO1.gno (b := false) rfl rfl ?_ rfl ?_; exact payD; simp only [pM, pN, rR, rP]) | (apply WO1.gsplit; exact rfl; exact rfl; exact payR; refine ⟨fun hh => ?_, fun hh => ?_⟩ <;> try simp only [Bool.not_true, Bool.not_false, pM, pN] at hh ⊢) | (apply WO1.ef; exact rfl; exact payE; simp only [pM, pN, rR, rP]) | (simp only [tP, bP, eP, true_and]) | (refine W.ret ?_; simp only [tR, bR, eR, true_and]) | (refine W.skip ?_; simp only [tN, bN, eN, true_and]) | (refine W.exit ?_; simp only [tX, bS, bO, Nat.reduceBEq, tN, bN]) | (refine W.condT ?_ ?_; exact payD) | (refine W.condF ?_ ?_; exact payD) | (apply W.condB; exact payR; refine ⟨fun hh => ?_, fun hh => ?_⟩))
          all_goals simp only [resV_def (X := dX cGA) Tryz.func37, Tryz.results37, resultsV, resultV, go_sem, *, Nat.reduceLT, Int.reduceEq, Int.reduceBEq, Int.reduceLE, Int.reduceLT, Nat.reduceAdd, Nat.reduceBEq, Nat.reduceEqDiff, reduceIte, Nat.reduceLeDiff, Nat.reduceMul, Nat.reduceSub, reduceCtorEq, frzRes, dFrz, frzCells, isRet_ret, tupleOf]
          rw [← HBF.out, HE.out]
      · have hd : decide ((i : Int) < (l.length : Int)) = false := by simpa using hl
        have HE := Lib.hid (bef_end (l := l) (r := r) HI.out.1 HI.out.2 (fun h => hl h.1))
        clear hl
        repeat' (first | (refine ⟨⟨trivial, trivial⟩, ?_⟩) | (refine ⟨⟨rfl, rfl⟩, ?_⟩) | (refine WQ.cons rfl rfl ?_) | (refine WT.cons rfl rfl ?_) | (refine WQ.nil ?_) | (refine WT.nil ?_; simp only [tN, bN, eN, true_and]) | (apply WQ.alloc; exact rfl; exact rfl; exact payR; simp only [pM, pN]) | refine W.seq ?_ | refine W.region ?_ | refine W.block ?_ | refine W.scope ?_ | refine WO.cons ?_ | (refine WO.nil ?_; simp only [tN, bN, eN, true_and]) | (apply WO1.rd; exact payR; exact rfl; simp only [pM, pN, rR, rP]) | (refine WO1.gyes (b := true) rfl rfl ?_ rfl ?_; exact payD) | (refine WO1.gno (b := true) rfl rfl ?_ rfl ?_; exact payD; simp only [pM, pN, rR, rP]) | (refine WO1.gyes (b := false) rfl rfl ?_ rfl ?_; exact payD) | (refine WO1.gno (b := false) rfl rfl ?_ rfl ?_; exact payD; simp only [pM, pN, rR, rP]) | (apply WO1.gsplit; exact rfl; exact rfl; exact payR; refine ⟨fun hh => ?_, fun hh => ?_⟩ <;> try simp only [Bool.not_true, Bool.not_false, pM, pN] at hh ⊢) | (apply WO1.ef; exact rfl; exact payE; simp only [pM, pN, rR, rP]) | (simp only [tP, bP, eP, true_and]) | (refine W.ret ?_; simp only [tR, bR, eR, true_and]) | (refine W.skip ?_; simp only [tN, bN, eN, true_and]) | (refine W.exit ?_; simp only [tX, bS, bO, Nat.reduceBEq, tN, bN]) | (refine W.condT ?_ ?_; exact payD) | (refine W.condF ?_ ?_; exact payD) | (apply W.condB; exact payR; refine ⟨fun hh => ?_, fun hh => ?_⟩))
        all_goals simp only [resV_def (X := dX cGA) Tryz.func37, Tryz.results37, resultsV, resultV, go_sem, *, Nat.reduceLT, Int.reduceEq, Int.reduceBEq, Int.reduceLE, Int.reduceLT, Nat.reduceAdd, Nat.reduceBEq, Nat.reduceEqDiff, reduceIte, Nat.reduceLeDiff, Nat.reduceMul, Nat.reduceSub, reduceCtorEq, frzRes, dFrz, frzCells, isRet_ret, tupleOf]
        rw [← HBF.out, HE.out]
    · cases h
  · cases h
def ordAt (l : List Int) (many : Int) (i : Nat) : Bool := ((List.range i).all fun k => !(l.getD i 0 == l.getD k 0)) && inB (l.getD i 0) 0 (w64 (many - 1))
def orderB (l : List Int) (many : Int) : Bool := ((List.range l.length).all (ordAt l many)) && ((l.length : Int) == many)
def sp35 : List AV → Option AV
  | [a, .int .i64 many] => (slV intC a).map fun l => .bool (orderB l many)
  | _ => none
theorem p35 : ∀ args v, sp35 args = some v → v.pur = true := by
  intro args v h
  unfold sp35 at h
  split at h
  · simp only [Option.map_eq_some_iff] at h; obtain ⟨l, _, rfl⟩ := h; rfl
  · cases h
noncomputable def cGG : FuncId → Option (List AV → Heap → Option (AV × Heap))
  | 97 => some (pureFn sp97)
  | _ => none
theorem cGG_sound : Sound (dX cGG) := dX_sound (fun f g h => by
  unfold cGG at h
  split at h
  · cases h; exact F97
  · cases h)
theorem ord_no {l : List Int} {many : Int} {i : Nat} (hi : i < l.length) (h : ordAt l many i = false) : orderB l many = false := by
  unfold orderB
  rw [all_not hi h]
  rfl
set_option maxHeartbeats 2000000 in
theorem F35 : IntrFn Tryz.prog 35 (pureFn sp35) := by
  refine pure_fn (X := dX cGG) cGG_sound p35 ?_
  intro args v h
  unfold sp35 at h
  split at h
  · rename_i a many
    simp only [Option.map_eq_some_iff] at h
    obtain ⟨l, ha, rfl⟩ := h
    have hlen := sl_len ha
    have hout := sl_out ha
    have hmax := sl_max ha
    have HA := Lib.hid ha
    generalize hres : orderB l many = res
    have HR := Lib.hid hres
    clear ha hres
    refine ClR.walk (c := _) rfl Tryz.func35 rfl (by kernel_rfl) rfl isRet_fail ?_
    simp only [entryEnv, Nat.reduceAdd, emptyHp]
    repeat' (first | (refine ⟨⟨trivial, trivial⟩, ?_⟩) | (refine ⟨⟨rfl, rfl⟩, ?_⟩) | (refine WQ.cons rfl rfl ?_) | (refine WT.cons rfl rfl ?_) | (refine WQ.nil ?_) | (refine WT.nil ?_; simp only [tN, bN, eN, true_and]) | (apply WQ.alloc; exact rfl; exact rfl; exact payR; simp only [pM, pN]) | refine W.seq ?_ | refine W.region ?_ | refine W.block ?_ | refine W.scope ?_ | refine WO.cons ?_ | (refine WO.nil ?_; simp only [tN, bN, eN, true_and]) | (apply WO1.rd; exact payR; exact rfl; simp only [pM, pN, rR, rP]) | (refine WO1.gyes (b := true) rfl rfl ?_ rfl ?_; exact payD) | (refine WO1.gno (b := true) rfl rfl ?_ rfl ?_; exact payD; simp only [pM, pN, rR, rP]) | (refine WO1.gyes (b := false) rfl rfl ?_ rfl ?_; exact payD) | (refine WO1.gno (b := false) rfl rfl ?_ rfl ?_; exact payD; simp only [pM, pN, rR, rP]) | (apply WO1.gsplit; exact rfl; exact rfl; exact payR; refine ⟨fun hh => ?_, fun hh => ?_⟩ <;> try simp only [Bool.not_true, Bool.not_false, pM, pN] at hh ⊢) | (apply WO1.ef; exact rfl; exact payE; simp only [pM, pN, rR, rP]) | (simp only [tP, bP, eP, true_and]) | (refine W.ret ?_; simp only [tR, bR, eR, true_and]) | (refine W.skip ?_; simp only [tN, bN, eN, true_and]) | (refine W.exit ?_; simp only [tX, bS, bO, Nat.reduceBEq, tN, bN]) | (refine W.condT ?_ ?_; exact payD) | (refine W.condF ?_ ?_; exact payD) | (apply W.condB; exact payR; refine ⟨fun hh => ?_, fun hh => ?_⟩))
    refine W.loopN l.length (fun i F => ∃ e, F = Fr.mk 35 false e .nil ⟨0, .nil⟩ [] none ∧ (∀ j, j < i → ordAt l many j = true) ∧ e.get 0 = some a ∧ e.get 1 = some (.int .i64 many) ∧ e.get 5 = some (.int .i64 ↑i) ∧ i ≤ l.length) ?_ ?_
    · refine ⟨_, rfl, fun j hj => absurd hj (by omega), ?_, ?_, ?_, ?_⟩ <;> first | exact payD | simp [go_sem, *, Nat.reduceLT, Int.reduceEq, Int.reduceBEq, Int.reduceLE, Int.reduceLT, Nat.reduceAdd, Nat.reduceBEq, Nat.reduceEqDiff, reduceIte, Nat.reduceLeDiff, Nat.reduceMul, Nat.reduceSub, reduceCtorEq]
    rintro i F ⟨e, rfl, hall, h0, h1, h5, hi⟩
    have HALL := Lib.hid hall
    clear hall
    by_cases hlt : i < l.length
    · have hd : decide ((i : Int) < (l.length : Int)) = true := by simpa using hlt
      have hw := wrap_succ hlt hmax
      obtain ⟨p, hp⟩ := get_some hlt
      have hgp : l.getD i 0 = p := by simp [List.getD, hp]
      have hix := int_idx HA.out hp
      have HP := Lib.hid hgp
      clear hgp hp
      repeat' (first | (refine ⟨⟨trivial, trivial⟩, ?_⟩) | (refine ⟨⟨rfl, rfl⟩, ?_⟩) | (refine WQ.cons rfl rfl ?_) | (refine WT.cons rfl rfl ?_) | (refine WQ.nil ?_) | (refine WT.nil ?_; simp only [tN, bN, eN, true_and]) | (apply WQ.alloc; exact rfl; exact rfl; exact payR; simp only [pM, pN]) | refine W.seq ?_ | refine W.region ?_ | refine W.block ?_ | refine W.scope ?_ | refine WO.cons ?_ | (refine WO.nil ?_; simp only [tN, bN, eN, true_and]) | (apply WO1.rd; exact payR; exact rfl; simp only [pM, pN, rR, rP]) | (refine WO1.gyes (b := true) rfl rfl ?_ rfl ?_; exact payD) | (refine WO1.gno (b := true) rfl rfl ?_ rfl ?_; exact payD; simp only [pM, pN, rR, rP]) | (refine WO1.gyes (b := false) rfl rfl ?_ rfl ?_; exact payD) | (refine WO1.gno (b := false) rfl rfl ?_ rfl ?_; exact payD; simp only [pM, pN, rR, rP]) | (apply WO1.gsplit; exact rfl; exact rfl; exact payR; refine ⟨fun hh => ?_, fun hh => ?_⟩ <;> try simp only [Bool.not_true, Bool.not_false, pM, pN] at hh ⊢) | (apply WO1.ef; exact rfl; exact payE; simp only [pM, pN, rR, rP]) | (simp only [tP, bP, eP, true_and]) | (refine W.ret ?_; simp only [tR, bR, eR, true_and]) | (refine W.skip ?_; simp only [tN, bN, eN, true_and]) | (refine W.exit ?_; simp only [tX, bS, bO, Nat.reduceBEq, tN, bN]) | (refine W.condT ?_ ?_; exact payD) | (refine W.condF ?_ ?_; exact payD) | (apply W.condB; exact payR; refine ⟨fun hh => ?_, fun hh => ?_⟩))
      refine W.loopN i (fun k F => ∃ e, F = Fr.mk 35 false e .nil ⟨0, .nil⟩ [] none ∧ (∀ j, j < k → (!(p == l.getD j 0)) = true) ∧ e.get 0 = some a ∧ e.get 1 = some (.int .i64 many) ∧ e.get 5 = some (.int .i64 ↑i) ∧ e.get 6 = some (.int .i64 ↑k) ∧ k ≤ i) ?_ ?_
      · refine ⟨_, rfl, fun j hj => absurd hj (by omega), ?_, ?_, ?_, ?_, ?_⟩ <;> first | exact payD | simp [go_sem, *, Nat.reduceLT, Int.reduceEq, Int.reduceBEq, Int.reduceLE, Int.reduceLT, Nat.reduceAdd, Nat.reduceBEq, Nat.reduceEqDiff, reduceIte, Nat.reduceLeDiff, Nat.reduceMul, Nat.reduceSub, reduceCtorEq]
      clear h0 h1 h5 hd
      rintro k F ⟨e, rfl, hal2, h0, h1, h5, h6, hk⟩
      have HAL2 := Lib.hid hal2
      clear hal2
      by_cases hki : k < i
      · have hd : decide ((k : Int) < (i : Int)) = true := by simpa using hki
        have hw2 := wrap_succ (m := i) hki (by omega)
        obtain ⟨q, hq⟩ := get_some (show k < l.length by omega)
        have hiy := int_idx HA.out hq
        have hgq : l.getD k 0 = q := by simp [List.getD, hq]
        have HQ := Lib.hid hgq
        clear hgq hq
        cases hpq : (p == q) with
        | true =>
          have HPQ := Lib.hid hpq
          have HF := Lib.hid (ord_no (many := many) hlt (by
            unfold ordAt
            rw [HP.out, all_not hki (by rw [HQ.out, hpq]; rfl)]
            rfl))
          repeat' (first | (apply W.drawQ (id := 7) (l1 := [0, 1, 2, 3, 4, 5, 6, 7, 8]) (l2 := []); kernel_rfl; kernel_rfl; kernel_rfl; exact payP) | (refine ⟨⟨trivial, trivial⟩, ?_⟩) | (refine ⟨⟨rfl, rfl⟩, ?_⟩) | (refine WQ.cons rfl rfl ?_) | (refine WT.cons rfl rfl ?_) | (refine WQ.nil ?_) | (refine WT.nil ?_; simp only [tN, bN, eN, true_and]) | (apply WQ.alloc; exact rfl; exact rfl; exact payR; simp only [pM, pN]) | refine W.seq ?_ | refine W.region ?_ | refine W.block ?_ | refine W.scope ?_ | refine WO.cons ?_ | (refine WO.nil ?_; simp only [tN, bN, eN, true_and]) | (apply WO1.rd; exact payR; exact rfl; simp only [pM, pN, rR, rP]) | (refine WO1.gyes (b := true) rfl rfl ?_ rfl ?_; exact payD) | (refine WO1.gno (b := true) rfl rfl ?_ rfl ?_; exact payD; simp only [pM, pN, rR, rP]) | (refine WO1.gyes (b := false) rfl rfl ?_ rfl ?_; exact payD) | (refine WO1.gno (b := false) rfl rfl ?_ rfl ?_; exact payD; simp only [pM, pN, rR, rP]) | (apply WO1.gsplit; exact rfl; exact rfl; exact payR; refine ⟨fun hh => ?_, fun hh => ?_⟩ <;> try simp only [Bool.not_true, Bool.not_false, pM, pN] at hh ⊢) | (apply WO1.ef; exact rfl; exact payE; simp only [pM, pN, rR, rP]) | (simp only [tP, bP, eP, true_and]) | (refine W.ret ?_; simp only [tR, bR, eR, true_and]) | (refine W.skip ?_; simp only [tN, bN, eN, true_and]) | (refine W.exit ?_; simp only [tX, bS, bO, Nat.reduceBEq, tN, bN]) | (refine W.condT ?_ ?_; exact payD) | (refine W.condF ?_ ?_; exact payD) | (apply W.condB; exact payR; refine ⟨fun hh => ?_, fun hh => ?_⟩))
          all_goals simp only [resV_def (X := dX cGG) Tryz.func35, Tryz.results35, resultsV, resultV, go_sem, *, Nat.reduceLT, Int.reduceEq, Int.reduceBEq, Int.reduceLE, Int.reduceLT, Nat.reduceAdd, Nat.reduceBEq, Nat.reduceEqDiff, reduceIte, Nat.reduceLeDiff, Nat.reduceMul, Nat.reduceSub, reduceCtorEq, frzRes, dFrz, frzCells, isRet_ret, tupleOf]
          rw [← HR.out, HF.out]
        | false =>
          have HPQ := Lib.hid hpq
          repeat' (first | (apply W.drawQ (id := 7) (l1 := [0, 1, 2, 3, 4, 5, 6, 7, 8]) (l2 := []); kernel_rfl; kernel_rfl; kernel_rfl; exact payP) | (refine ⟨⟨trivial, trivial⟩, ?_⟩) | (refine ⟨⟨rfl, rfl⟩, ?_⟩) | (refine WQ.cons rfl rfl ?_) | (refine WT.cons rfl rfl ?_) | (refine WQ.nil ?_) | (refine WT.nil ?_; simp only [tN, bN, eN, true_and]) | (apply WQ.alloc; exact rfl; exact rfl; exact payR; simp only [pM, pN]) | refine W.seq ?_ | refine W.region ?_ | refine W.block ?_ | refine W.scope ?_ | refine WO.cons ?_ | (refine WO.nil ?_; simp only [tN, bN, eN, true_and]) | (apply WO1.rd; exact payR; exact rfl; simp only [pM, pN, rR, rP]) | (refine WO1.gyes (b := true) rfl rfl ?_ rfl ?_; exact payD) | (refine WO1.gno (b := true) rfl rfl ?_ rfl ?_; exact payD; simp only [pM, pN, rR, rP]) | (refine WO1.gyes (b := false) rfl rfl ?_ rfl ?_; exact payD) | (refine WO1.gno (b := false) rfl rfl ?_ rfl ?_; exact payD; simp only [pM, pN, rR, rP]) | (apply WO1.gsplit; exact rfl; exact rfl; exact payR; refine ⟨fun hh => ?_, fun hh => ?_⟩ <;> try simp only [Bool.not_true, Bool.not_false, pM, pN] at hh ⊢) | (apply WO1.ef; exact rfl; exact payE; simp only [pM, pN, rR, rP]) | (simp only [tP, bP, eP, true_and]) | (refine W.ret ?_; simp only [tR, bR, eR, true_and]) | (refine W.skip ?_; simp only [tN, bN, eN, true_and]) | (refine W.exit ?_; simp only [tX, bS, bO, Nat.reduceBEq, tN, bN]) | (refine W.condT ?_ ?_; exact payD) | (refine W.condF ?_ ?_; exact payD) | (apply W.condB; exact payR; refine ⟨fun hh => ?_, fun hh => ?_⟩))
          refine ⟨hki, _, rfl, fun j hj => ?_, ?_, ?_, ?_, ?_, by omega⟩
          · rcases Nat.lt_or_ge j k with q | q
            · exact HAL2.out j q
            · obtain rfl : j = k := by omega
              rw [HQ.out, HPQ.out]; rfl
          all_goals exact payD
      · have hd : decide ((k : Int) < (i : Int)) = false := by simpa using hki
        have HIK := Lib.hid (show i ≤ k by omega)
        have hw3 : IntKind.i64.wrap (many - 1) = w64 (many - 1) := rfl
        have k97 : ∀ h, Cl (dX cGG) 97 [.int .i64 p, .int .i64 0, .int .i64 (w64 (many - 1))] h (.ret (.bool (inB p 0 (w64 (many - 1)))) h none) := fun h => K97 rfl p 0 _ h
        have hat : ordAt l many i = inB p 0 (w64 (many - 1)) := by
          unfold ordAt
          rw [HP.out, all_yes fun m hm => HAL2.out m (by have := HIK.out; omega)]
          rfl
        have HAT := Lib.hid hat
        clear hki hk hat
        generalize w64 (many - 1) = m1 at *
        cases hb : inB p 0 m1 with
        | true =>
          rw [hb] at k97
          have HB := Lib.hid hb
          clear hb
          repeat' (first | (refine ⟨⟨trivial, trivial⟩, ?_⟩) | (refine ⟨⟨rfl, rfl⟩, ?_⟩) | (refine WQ.cons rfl rfl ?_) | (refine WT.cons rfl rfl ?_) | (refine WQ.nil ?_) | (refine WT.nil ?_; simp only [tN, bN, eN, true_and]) | (apply WQ.alloc; exact rfl; exact rfl; exact payR; simp only [pM, pN]) | refine W.seq ?_ | refine W.region ?_ | refine W.block ?_ | refine W.scope ?_ | refine WO.cons ?_ | (refine WO.nil ?_; simp only [tN, bN, eN, true_and]) | (apply WO1.rd; exact payR; exact rfl; simp only [pM, pN, rR, rP]) | (refine WO1.gyes (b := true) rfl rfl ?_ rfl ?_; exact payD) | (refine WO1.gno (b := true) rfl rfl ?_ rfl ?_; exact payD; simp only [pM, pN, rR, rP]) | (refine WO1.gyes (b := false) rfl rfl ?_ rfl ?_; exact payD) | (refine WO1.gno (b := false) rfl rfl ?_ rfl ?_; exact payD; simp only [pM, pN, rR, rP]) | (apply WO1.gsplit; exact rfl; exact rfl; exact payR; refine ⟨fun hh => ?_, fun hh => ?_⟩ <;> try simp only [Bool.not_true, Bool.not_false, pM, pN] at hh ⊢) | (apply WO1.call; exact payR; exact payR; (focus (simp only [List.nil_append, List.append_nil]; first | exact k97 _)); simp only [pM, pN, rR, rP]) | (apply WO1.ef; exact rfl; exact payE; simp only [pM, pN, rR, rP]) | (simp only [tP, bP, eP, true_and]) | (refine W.ret ?_; simp only [tR, bR, eR, true_and]) | (refine W.skip ?_; simp only [tN, bN, eN, true_and]) | (refine W.exit ?_; simp only [tX, bS, bO, Nat.reduceBEq, tN, bN]) | (refine W.condT ?_ ?_; exact payD) | (refine W.condF ?_ ?_; exact payD) | (apply W.condB; exact payR; refine ⟨fun hh => ?_, fun hh => ?_⟩))
          refine ⟨hlt, _, rfl, fun j hj => ?_, ?_, ?_, ?_, by omega⟩
          · rcases Nat.lt_or_ge j i with q | q
            · exact HALL.out j q
            · obtain rfl : j = i := by omega
              rw [HAT.out, HB.out]
          all_goals exact payD
        | false =>
          rw [hb] at k97
          have HF := Lib.hid (ord_no (many := many) hlt (by rw [HAT.out, hb]))
          clear hb
          repeat' (first | (refine ⟨⟨trivial, trivial⟩, ?_⟩) | (refine ⟨⟨rfl, rfl⟩, ?_⟩) | (refine WQ.cons rfl rfl ?_) | (refine WT.cons rfl rfl ?_) | (refine WQ.nil ?_) | (refine WT.nil ?_; simp only [tN, bN, eN, true_and]) | (apply WQ.alloc; exact rfl; exact rfl; exact payR; simp only [pM, pN]) | refine W.seq ?_ | refine W.region ?_ | refine W.block ?_ | refine W.scope ?_ | refine WO.cons ?_ | (refine WO.nil ?_; simp only [tN, bN, eN, true_and]) | (apply WO1.rd; exact payR; exact rfl; simp only [pM, pN, rR, rP]) | (refine WO1.gyes (b := true) rfl rfl ?_ rfl ?_; exact payD) | (refine WO1.gno (b := true) rfl rfl ?_ rfl ?_; exact payD; simp only [pM, pN, rR, rP]) | (refine WO1.gyes (b := false) rfl rfl ?_ rfl ?_; exact payD) | (refine WO1.gno (b := false) rfl rfl ?_ rfl ?_; exact payD; simp only [pM, pN, rR, rP]) | (apply WO1.gsplit; exact rfl; exact rfl; exact payR; refine ⟨fun hh => ?_, fun hh => ?_⟩ <;> try simp only [Bool.not_true, Bool.not_false, pM, pN] at hh ⊢) | (apply WO1.call; exact payR; exact payR; (focus (simp only [List.nil_append, List.append_nil]; first | exact k97 _)); simp only [pM, pN, rR, rP]) | (apply WO1.ef; exact rfl; exact payE; simp only [pM, pN, rR, rP]) | (simp only [tP, bP, eP, true_and]) | (refine W.ret ?_; simp only [tR, bR, eR, true_and]) | (refine W.skip ?_; simp only [tN, bN, eN, true_and]) | (refine W.exit ?_; simp only [tX, bS, bO, Nat.reduceBEq, tN, bN]) | (refine W.condT ?_ ?_; exact payD) | (refine W.condF ?_ ?_; exact payD) | (apply W.condB; exact payR; refine ⟨fun hh => ?_, fun hh => ?_⟩))
          all_goals simp only [resV_def (X := dX cGG) Tryz.func35, Tryz.results35, resultsV, resultV, go_sem, *, Nat.reduceLT, Int.reduceEq, Int.reduceBEq, Int.reduceLE, Int.reduceLT, Nat.reduceAdd, Nat.reduceBEq, Nat.reduceEqDiff, reduceIte, Nat.reduceLeDiff, Nat.reduceMul, Nat.reduceSub, reduceCtorEq, frzRes, dFrz, frzCells, isRet_ret, tupleOf]
          rw [← HR.out, HF.out]
    · have hd : decide ((i : Int) < (l.length : Int)) = false := by simpa using hlt
      have hil : i = l.length := by omega
      have HT := Lib.hid (all_yes (n := l.length) (f := ordAt l many) (fun j hj => HALL.out j (by omega)))
      clear hil
      repeat' (first | (refine ⟨⟨trivial, trivial⟩, ?_⟩) | (refine ⟨⟨rfl, rfl⟩, ?_⟩) | (refine WQ.cons rfl rfl ?_) | (refine WT.cons rfl rfl ?_) | (refine WQ.nil ?_) | (refine WT.nil ?_; simp only [tN, bN, eN, true_and]) | (apply WQ.alloc; exact rfl; exact rfl; exact payR; simp only [pM, pN]) | refine W.seq ?_ | refine W.region ?_ | refine W.block ?_ | refine W.scope ?_ | refine WO.cons ?_ | (refine WO.nil ?_; simp only [tN, bN, eN, true_and]) | (apply WO1.rd; exact payR; exact rfl; simp only [pM, pN, rR, rP]) | (refine WO1.gyes (b := true) rfl rfl ?_ rfl ?_; exact payD) | (refine WO1.gno (b := true) rfl rfl ?_ rfl ?_; exact payD; simp only [pM, pN, rR, rP]) | (refine WO1.gyes (b := false) rfl rfl ?_ rfl ?_; exact payD) | (refine WO1.gno (b := false) rfl rfl ?_ rfl ?_; exact payD; simp only [pM, pN, rR, rP]) | (apply WO1.gsplit; exact rfl; exact rfl; exact payR; refine ⟨fun hh => ?_, fun hh => ?_⟩ <;> try simp only [Bool.not_true, Bool.not_false, pM, pN] at hh ⊢) | (apply WO1.ef; exact rfl; exact payE; simp only [pM, pN, rR, rP]) | (simp only [tP, bP, eP, true_and]) | (refine W.ret ?_; simp only [tR, bR, eR, true_and]) | (refine W.skip ?_; simp only [tN, bN, eN, true_and]) | (refine W.exit ?_; simp only [tX, bS, bO, Nat.reduceBEq, tN, bN]) | (refine W.condT ?_ ?_; exact payD) | (refine W.condF ?_ ?_; exact payD) | (apply W.condB; exact payR; refine ⟨fun hh => ?_, fun hh => ?_⟩))
      all_goals simp only [resV_def (X := dX cGG) Tryz.func35, Tryz.results35, resultsV, resultV, go_sem, *, Nat.reduceLT, Int.reduceEq, Int.reduceBEq, Int.reduceLE, Int.reduceLT, Nat.reduceAdd, Nat.reduceBEq, Nat.reduceEqDiff, reduceIte, Nat.reduceLeDiff, Nat.reduceMul, Nat.reduceSub, reduceCtorEq, frzRes, dFrz, frzCells, isRet_ret, tupleOf]
      rw [← HR.out]
      unfold orderB
      rw [HT.out]
      rfl
  · cases h
end Go.AM
set_option maxRecDepth 100000
namespace Go.AM
open Go Go.Proofs
variable [Keep]
attribute [local irreducible] W WO WO1 WD WQ WT thenQ blockQ endR isRet retK Cl ClR
attribute [local irreducible] farS againS matchS measB
noncomputable def c4 : FuncId → Option (List AV → Heap → Option (AV × Heap))
  | 31 => some (pureFn sp31)
  | 32 => some (pureFn sp32)
  | 33 => some (pureFn sp33)
  | 34 => some (pureFn sp34)
  | f => c25 cK f
theorem meas_len {l : List Pt} {off : Int} (h : measB l off = true) : 2 ≤ l.length ∧ l.length ≤ 4 := by
  unfold measB at h
  simp only [allB, inB, Bool.and_eq_true, decide_eq_true_eq] at h
  omega
set_option maxHeartbeats 8000000 in
theorem T4 (ca la : AV) (off turn : Int) (hs ps : List Pt) (hc : isSl ca (hs.map ptC.enc)) (hl : isSl la (ps.map ptC.enc)) : ClR (dX c4) 4 [.agg [ca, .int .i64 off], la, .int .i64 turn] emptyHp (isRet (.bool true)) := by
  have o1 := hc.out
  have o2 := hl.out
  have t1 := hc.tup
  have ln1 : lenS ca = some hs.length := by rw [hc.len, List.length_map]
  have ln2 : lenS la = some ps.length := by rw [hl.len, List.length_map]
  have k25 : ∀ h, Cl (dX c4) 25 [] h (.ret (.bool true) h none) := fun h => K25 rfl h
  by_cases g1 : (ps.length : Int) > 6
  · have hd : decide ((ps.length : Int) > 6) = true := by simpa using g1
    clear hc hl g1
    refine ClR.walk (c := _) rfl Tryz.func4 rfl (by kernel_rfl) rfl isRet_fail ?_
    simp only [entryEnv, Nat.reduceAdd, emptyHp]
    repeat' (first | (refine ⟨⟨trivial, trivial⟩, ?_⟩) | (refine ⟨⟨rfl, rfl⟩, ?_⟩) | (refine WQ.cons rfl rfl ?_) | (refine WT.cons rfl rfl ?_) | (refine WQ.nil ?_) | (refine WT.nil ?_; simp only [tN, bN, eN, true_and]) | (apply WQ.alloc; exact rfl; exact rfl; exact payR; simp only [pM, pN]) | refine W.seq ?_ | refine W.region ?_ | refine W.block ?_ | refine W.scope ?_ | refine WO.cons ?_ | (refine WO.nil ?_; simp only [tN, bN, eN, true_and]) | (apply WO1.rd; exact payR; exact rfl; simp only [pM, pN, rR, rP]) | (refine WO1.gyes (b := true) rfl rfl ?_ rfl ?_; exact payD) | (refine WO1.gno (b := true) rfl rfl ?_ rfl ?_; exact payD; simp only [pM, pN, rR, rP]) | (refine WO1.gyes (b := false) rfl rfl ?_ rfl ?_; exact payD) | (refine WO1.gno (b := false) rfl rfl ?_ rfl ?_; exact payD; simp only [pM, pN, rR, rP]) | (apply WO1.gsplit; exact rfl; exact rfl; exact payR; refine ⟨fun hh => ?_, fun hh => ?_⟩ <;> try simp only [Bool.not_true, Bool.not_false, pM, pN] at hh ⊢) | (apply WO1.call; exact payR; exact payR; (focus (simp only [List.nil_append, List.append_nil]; first | exact k25 _)); simp only [pM, pN, rR, rP]) | (apply WO1.ef; exact rfl; exact payE; simp only [pM, pN, rR, rP]) | (simp only [tP, bP, eP, true_and]) | (refine W.ret ?_; simp only [tR, bR, eR, true_and]) | (refine W.skip ?_; simp only [tN, bN, eN, true_and]) | (refine W.exit ?_; simp only [tX, bS, bO, Nat.reduceBEq, tN, bN]) | (refine W.condT ?_ ?_; exact payD) | (refine W.condF ?_ ?_; exact payD) | (apply W.condB; exact payR; refine ⟨fun hh => ?_, fun hh => ?_⟩))
    all_goals simp only [resV_def (X := dX c4) Tryz.func4, Tryz.results4, resultsV, resultV, go_sem, *, Nat.reduceLT, Int.reduceEq, Int.reduceBEq, Int.reduceLE, Int.reduceLT, Nat.reduceAdd, Nat.reduceBEq, Nat.reduceEqDiff, reduceIte, Nat.reduceLeDiff, Nat.reduceMul, Nat.reduceSub, reduceCtorEq, frzRes, dFrz, frzCells, isRet_ret, tupleOf]
  have hd1 : decide ((ps.length : Int) > 6) = false := by simpa using g1
  by_cases g2 : (hs.length : Int) > 6
  · have hd : decide ((hs.length : Int) > 6) = true := by simpa using g2
    clear hc hl g1 g2
    refine ClR.walk (c := _) rfl Tryz.func4 rfl (by kernel_rfl) rfl isRet_fail ?_
    simp only [entryEnv, Nat.reduceAdd, emptyHp]
    repeat' (first | (refine ⟨⟨trivial, trivial⟩, ?_⟩) | (refine ⟨⟨rfl, rfl⟩, ?_⟩) | (refine WQ.cons rfl rfl ?_) | (refine WT.cons rfl rfl ?_) | (refine WQ.nil ?_) | (refine WT.nil ?_; simp only [tN, bN, eN, true_and]) | (apply WQ.alloc; exact rfl; exact rfl; exact payR; simp only [pM, pN]) | refine W.seq ?_ | refine W.region ?_ | refine W.block ?_ | refine W.scope ?_ | refine WO.cons ?_ | (refine WO.nil ?_; simp only [tN, bN, eN, true_and]) | (apply WO1.rd; exact payR; exact rfl; simp only [pM, pN, rR, rP]) | (refine WO1.gyes (b := true) rfl rfl ?_ rfl ?_; exact payD) | (refine WO1.gno (b := true) rfl rfl ?_ rfl ?_; exact payD; simp only [pM, pN, rR, rP]) | (refine WO1.gyes (b := false) rfl rfl ?_ rfl ?_; exact payD) | (refine WO1.gno (b := false) rfl rfl ?_ rfl ?_; exact payD; simp only [pM, pN, rR, rP]) | (apply WO1.gsplit; exact rfl; exact rfl; exact payR; refine ⟨fun hh => ?_, fun hh => ?_⟩ <;> try simp only [Bool.not_true, Bool.not_false, pM, pN] at hh ⊢) | (apply WO1.call; exact payR; exact payR; (focus (simp only [List.nil_append, List.append_nil]; first | exact k25 _)); simp only [pM, pN, rR, rP]) | (apply WO1.ef; exact rfl; exact payE; simp only [pM, pN, rR, rP]) | (simp only [tP, bP, eP, true_and]) | (refine W.ret ?_; simp only [tR, bR, eR, true_and]) | (refine W.skip ?_; simp only [tN, bN, eN, true_and]) | (refine W.exit ?_; simp only [tX, bS, bO, Nat.reduceBEq, tN, bN]) | (refine W.condT ?_ ?_; exact payD) | (refine W.condF ?_ ?_; exact payD) | (apply W.condB; exact payR; refine ⟨fun hh => ?_, fun hh => ?_⟩))
    all_goals simp only [resV_def (X := dX c4) Tryz.func4, Tryz.results4, resultsV, resultV, go_sem, *, Nat.reduceLT, Int.reduceEq, Int.reduceBEq, Int.reduceLE, Int.reduceLT, Nat.reduceAdd, Nat.reduceBEq, Nat.reduceEqDiff, reduceIte, Nat.reduceLeDiff, Nat.reduceMul, Nat.reduceSub, reduceCtorEq, frzRes, dFrz, frzCells, isRet_ret, tupleOf]
  have hd2 : decide ((hs.length : Int) > 6) = false := by simpa using g2
  have v1 : slV ptC ca = some hs := slV_mk hc (by unfold maxL; omega)
  have v2 : slV ptC la = some ps := slV_mk hl (by unfold maxL; omega)
  have k31 : ∀ h, Cl (dX c4) 31 [.agg [ca, .int .i64 off]] h (.ret (.bool (measB hs off)) h none) := fun h => Cl.intr (g := pureFn sp31) rfl (by simp [pureFn, AV.pur, AV.purL, sl_pur v1, sp31, v1])
  have k27 : ∀ h, Cl (dX c4) 27 [.int .i64 turn] h (.ret (.bool (inB turn 0 7)) h none) := fun h => K27 rfl turn h
  have k28 : ∀ h, Cl (dX c4) 28 [la, .int .i64 ↑hs.length, .int .i64 ↑hs.length, .int .i64 80] h (.ret (.bool (pointsB ps hs.length hs.length 80)) h none) := fun h => K28 rfl la ps _ _ 80 v2 h
  by_cases hall : measB hs off = true ∧ inB turn 0 7 = true ∧ pointsB ps hs.length hs.length 80 = true
  · obtain ⟨m1, m2, m3⟩ := hall
    have hms := meas_len m1
    have hin := m2
    simp only [inB, Bool.and_eq_true, decide_eq_true_eq] at hin
    obtain ⟨s, rfl⟩ : ∃ s : Nat, turn = s := ⟨turn.toNat, by omega⟩
    have hs8 : s < 8 := by omega
    have hpt := m3
    simp only [pointsB, inB, Bool.and_eq_true, decide_eq_true_eq] at hpt
    obtain ⟨hok, hln⟩ := hpt
    have hlen : hs.length = ps.length := by omega
    have hl4 : ps.length ≤ 4 := by omega
    have a1 := again_ok hs8 1 ps hok hl4
    have a2 := again_same (t := 1) (k := 4) (by omega) (fun p hp => four_one hp) hok hl4
    have a3 := again_same (t := 4) (k := 2) (by omega) (fun p hp => two_four hp) hok hl4
    have hx1 : iter (List.map (turnP (s : Nat))) 1 ps = ps.map (turnP (s : Nat)) := rfl
    rw [hx1] at a1
    have hmax : ps.length ≤ maxL := by unfold maxL; omega
    have k32a : ∀ h, Cl (dX c4) 32 [la, .int .i64 ↑s, .int .i64 1] h (.ret (slN ((ps.map (turnP (s : Nat))).map ptC.enc)) h none) := fun h => by
      have := K32 (X := dX c4) rfl la ps s 1 v2 rfl h
      rw [show (1 : Int).toNat = 1 from rfl, a1] at this
      exact this
    have k32b : ∀ h, Cl (dX c4) 32 [la, .int .i64 1, .int .i64 4] h (.ret (slN (ps.map ptC.enc)) h none) := fun h => by
      have := K32 (X := dX c4) rfl la ps 1 4 v2 rfl h
      rw [show (4 : Int).toNat = 4 from rfl, show (1 : Int) = ((1 : Nat) : Int) from rfl, a2] at this
      exact this
    have k32c : ∀ h, Cl (dX c4) 32 [la, .int .i64 4, .int .i64 2] h (.ret (slN (ps.map ptC.enc)) h none) := fun h => by
      have := K32 (X := dX c4) rfl la ps 4 2 v2 rfl h
      rw [show (2 : Int).toNat = 2 from rfl, show (4 : Int) = ((4 : Nat) : Int) from rfl, a3] at this
      exact this
    have spw : slV ptC (slN (ps.map ptC.enc)) = some ps := slV_slN hmax
    have sxw : slV ptC (slN ((ps.map (turnP (s : Nat))).map ptC.enc)) = some (ps.map (turnP (s : Nat))) := slV_slN (by rw [List.length_map]; exact hmax)
    have k29 : ∀ h, Cl (dX c4) 29 [slN (ps.map ptC.enc), la] h (.ret (.bool true) h none) := fun h => by
      have := K29 (X := dX c4) rfl (slN (ps.map ptC.enc)) la ps ps spw v2 (by omega) (by omega) h
      simpa using this
    have k34 : ∀ (w : AV) (qs : List Pt), slV ptC w = some qs → qs.all (okPt 80) = true → qs.length = ps.length → ∀ h, Cl (dX c4) 34 [.agg [ca, .int .i64 off], w] h (.ret (matchR (matchS off hs qs)) h none) := fun w qs hw hq hql h => by
      have hm : matchOk hs qs off = true := by
        unfold matchOk
        rw [m1, allB_P]
        simp only [pointsB, hq, inB, Bool.true_and, Bool.and_eq_true, decide_eq_true_eq]
        omega
      have : Cl (dX c4) 34 [.agg [ca, .int .i64 off], w] h (.ret (matchF hs qs off) h none) := Cl.intr (g := pureFn sp34) rfl (by simp [pureFn, AV.pur, AV.purL, sl_pur v1, sl_pur hw, sp34, v1, hw])
      unfold matchF at this
      rw [if_pos hm] at this
      exact this
    have k34a' := k34 la ps v2 hok rfl
    have k34b' := k34 _ _ sxw (all_turned hs8 hok) (by rw [List.length_map])
    have hmt := match_turned (off := off) (hs := hs) hs8 hok hlen
    have ho3 := sl_out spw
    have ho4 := sl_out sxw
    have hl4' := sl_len sxw
    rw [List.length_map] at hl4'
    have hnn : ((ps.length : Int) != (ps.length : Int)) = false := by simp
    have HV2 := Lib.hid v2
    have HSX := Lib.hid sxw
    have HOK := Lib.hid hok
    have HMX := Lib.hid hmax
    have hfar : ∀ i k p q, ps[i]? = some p → ps[k]? = some q → farS (turnP (s : Nat) p) (turnP (s : Nat) q) = farS p q := fun i k p q h1 h2 => far_turn hs8 (List.all_eq_true.1 hok p (List.mem_of_getElem? h1)) (List.all_eq_true.1 hok q (List.mem_of_getElem? h2))
    have HFAR := Lib.hid hfar
    have hmi : ∀ i p, ps[i]? = some p → (ps.map (turnP (s : Nat)))[i]? = some (turnP (s : Nat) p) := fun i p h => by rw [List.getElem?_map, h]; rfl
    have HMI := Lib.hid hmi
    rw [m1] at k31
    rw [m2] at k27
    rw [m3] at k28
    have HLEN := Lib.hid hlen
    rw [hlen] at k28 hd2 ln1
    clear hc hl g1 g2 v1 v2 m1 m2 m3 hms hin hok hln hlen a1 a2 a3 hx1 spw sxw k34 hfar hmax hs8 hl4 hmi
    generalize ps.map (turnP (s : Nat)) = xs at *
    generalize slN (xs.map ptC.enc) = xw at *
    generalize slN (ps.map ptC.enc) = pw at *
    generalize matchS off hs ps = ma at *
    generalize matchS off hs xs = mb at *
    refine ClR.walk (c := _) rfl Tryz.func4 rfl (by kernel_rfl) rfl isRet_fail ?_
    simp only [entryEnv, Nat.reduceAdd, emptyHp]
    repeat' (first | (refine ⟨⟨trivial, trivial⟩, ?_⟩) | (refine ⟨⟨rfl, rfl⟩, ?_⟩) | (refine WQ.cons rfl rfl ?_) | (refine WT.cons rfl rfl ?_) | (refine WQ.nil ?_) | (refine WT.nil ?_; simp only [tN, bN, eN, true_and]) | (apply WQ.alloc; exact rfl; exact rfl; exact payR; simp only [pM, pN]) | refine W.seq ?_ | refine W.region ?_ | refine W.block ?_ | refine W.scope ?_ | refine WO.cons ?_ | (refine WO.nil ?_; simp only [tN, bN, eN, true_and]) | (apply WO1.rd; exact payR; exact rfl; simp only [pM, pN, rR, rP]) | (refine WO1.gyes (b := true) rfl rfl ?_ rfl ?_; exact payD) | (refine WO1.gno (b := true) rfl rfl ?_ rfl ?_; exact payD; simp only [pM, pN, rR, rP]) | (refine WO1.gyes (b := false) rfl rfl ?_ rfl ?_; exact payD) | (refine WO1.gno (b := false) rfl rfl ?_ rfl ?_; exact payD; simp only [pM, pN, rR, rP]) | (apply WO1.gsplit; exact rfl; exact rfl; exact payR; refine ⟨fun hh => ?_, fun hh => ?_⟩ <;> try simp only [Bool.not_true, Bool.not_false, pM, pN] at hh ⊢) | (apply WO1.call; exact payR; exact payR; (focus (simp only [List.nil_append, List.append_nil]; first | exact k31 _ | exact k27 _ | exact k28 _ | exact k32a _ | exact k32b _ | exact k32c _ | exact k29 _)); simp only [pM, pN, rR, rP]) | (apply WO1.ef; exact rfl; exact payE; simp only [pM, pN, rR, rP]) | (simp only [tP, bP, eP, true_and]) | (refine W.ret ?_; simp only [tR, bR, eR, true_and]) | (refine W.skip ?_; simp only [tN, bN, eN, true_and]) | (refine W.exit ?_; simp only [tX, bS, bO, Nat.reduceBEq, tN, bN]) | (refine W.condT ?_ ?_; exact payD) | (refine W.condF ?_ ?_; exact payD) | (apply W.condB; exact payR; refine ⟨fun hh => ?_, fun hh => ?_⟩))
    clear k31 k27 k28 k32a k32b k32c k29
    refine W.loopN ps.length (fun i F => ∃ e lm, F = Fr.mk 4 false e lm ⟨0, .nil⟩ [] none ∧ lm.get 3 = some (0, [ca, .int .i64 off]) ∧ e.get 1 = some la ∧ e.get 3 = some (.lptr 3 0 0) ∧ e.get 7 = some xw ∧ e.get 8 = some (.int .i64 ↑i) ∧ i ≤ ps.length) ?_ ?_
    · refine ⟨_, _, rfl, ?_, ?_, ?_, ?_, ?_, ?_⟩ <;> first | exact payD | simp [go_sem, *, Nat.reduceLT, Int.reduceEq, Int.reduceBEq, Int.reduceLE, Int.reduceLT, Nat.reduceAdd, Nat.reduceBEq, Nat.reduceEqDiff, reduceIte, Nat.reduceLeDiff, Nat.reduceMul, Nat.reduceSub, reduceCtorEq]
    rintro i F ⟨e, lm, rfl, m3, h1, h3, h7, h8, hi⟩
    by_cases hlt : i < ps.length
    · have hd : decide ((i : Int) < (ps.length : Int)) = true := by simpa using hlt
      have hw := wrap_succ hlt HMX.out
      obtain ⟨p, hp⟩ := get_some hlt
      have hix := pts_idx HV2.out hp
      have hiy := pts_idx HSX.out (HMI.out i p hp)
      have HP := Lib.hid hp
      clear hp
      repeat' (first | (refine ⟨⟨trivial, trivial⟩, ?_⟩) | (refine ⟨⟨rfl, rfl⟩, ?_⟩) | (refine WQ.cons rfl rfl ?_) | (refine WT.cons rfl rfl ?_) | (refine WQ.nil ?_) | (refine WT.nil ?_; simp only [tN, bN, eN, true_and]) | (apply WQ.alloc; exact rfl; exact rfl; exact payR; simp only [pM, pN]) | refine W.seq ?_ | refine W.region ?_ | refine W.block ?_ | refine W.scope ?_ | refine WO.cons ?_ | (refine WO.nil ?_; simp only [tN, bN, eN, true_and]) | (apply WO1.rd; exact payR; exact rfl; simp only [pM, pN, rR, rP]) | (refine WO1.gyes (b := true) rfl rfl ?_ rfl ?_; exact payD) | (refine WO1.gno (b := true) rfl rfl ?_ rfl ?_; exact payD; simp only [pM, pN, rR, rP]) | (refine WO1.gyes (b := false) rfl rfl ?_ rfl ?_; exact payD) | (refine WO1.gno (b := false) rfl rfl ?_ rfl ?_; exact payD; simp only [pM, pN, rR, rP]) | (apply WO1.gsplit; exact rfl; exact rfl; exact payR; refine ⟨fun hh => ?_, fun hh => ?_⟩ <;> try simp only [Bool.not_true, Bool.not_false, pM, pN] at hh ⊢) | (apply WO1.ef; exact rfl; exact payE; simp only [pM, pN, rR, rP]) | (simp only [tP, bP, eP, true_and]) | (refine W.ret ?_; simp only [tR, bR, eR, true_and]) | (refine W.skip ?_; simp only [tN, bN, eN, true_and]) | (refine W.exit ?_; simp only [tX, bS, bO, Nat.reduceBEq, tN, bN]) | (refine W.condT ?_ ?_; exact payD) | (refine W.condF ?_ ?_; exact payD) | (apply W.condB; exact payR; refine ⟨fun hh => ?_, fun hh => ?_⟩))
      refine W.loopN i (fun k F => ∃ e lm, F = Fr.mk 4 false e lm ⟨0, .nil⟩ [] none ∧ lm.get 3 = some (0, [ca, .int .i64 off]) ∧ e.get 1 = some la ∧ e.get 3 = some (.lptr 3 0 0) ∧ e.get 7 = some xw ∧ e.get 8 = some (.int .i64 ↑i) ∧ e.get 9 = some (.int .i64 ↑k) ∧ k ≤ i) ?_ ?_
      · refine ⟨_, _, rfl, ?_, ?_, ?_, ?_, ?_, ?_, ?_⟩ <;> first | exact payD | simp [go_sem, *, Nat.reduceLT, Int.reduceEq, Int.reduceBEq, Int.reduceLE, Int.reduceLT, Nat.reduceAdd, Nat.reduceBEq, Nat.reduceEqDiff, reduceIte, Nat.reduceLeDiff, Nat.reduceMul, Nat.reduceSub, reduceCtorEq]
      clear m3 h1 h3 h7 h8 hd
      rintro k F ⟨e, lm, rfl, m3, h1, h3, h7, h8, h9, hk⟩
      by_cases hki : k < i
      · have hd : decide ((k : Int) < (i : Int)) = true := by simpa using hki
        have hw2 := wrap_succ (m := i) hki (by have := HMX.out; omega)
        obtain ⟨q, hq⟩ := get_some (show k < ps.length by omega)
        have hkx := pts_idx HV2.out hq
        have hky := pts_idx HSX.out (HMI.out k q hq)
        have hf := HFAR.out i k p q HP.out hq
        generalize turnP (s : Nat) p = p' at *
        generalize turnP (s : Nat) q = q' at *
        have k33a : ∀ h, Cl (dX c4) 33 [.agg [.int .i64 p.x, .int .i64 p.y], .agg [.int .i64 q.x, .int .i64 q.y]] h (.ret (.int .i64 (farS p q)) h none) := fun h => K33 rfl p q h
        have k33b : ∀ h, Cl (dX c4) 33 [.agg [.int .i64 p'.x, .int .i64 p'.y], .agg [.int .i64 q'.x, .int .i64 q'.y]] h (.ret (.int .i64 (farS p q)) h none) := fun h => by
          rw [← hf]
          exact K33 rfl p' q' h
        generalize farS p q = fr at *
        have hne : (fr != fr) = false := by simp
        clear hf hq
        repeat' (first | (apply W.drawQ (id := 12) (l1 := [0, 1, 2, 3, 4, 5, 6, 7, 8, 9, 10, 11, 12, 13, 14, 15, 16, 17, 18]) (l2 := []); kernel_rfl; kernel_rfl; kernel_rfl; exact payP) | (refine ⟨⟨trivial, trivial⟩, ?_⟩) | (refine ⟨⟨rfl, rfl⟩, ?_⟩) | (refine WQ.cons rfl rfl ?_) | (refine WT.cons rfl rfl ?_) | (refine WQ.nil ?_) | (refine WT.nil ?_; simp only [tN, bN, eN, true_and]) | (apply WQ.alloc; exact rfl; exact rfl; exact payR; simp only [pM, pN]) | refine W.seq ?_ | refine W.region ?_ | refine W.block ?_ | refine W.scope ?_ | refine WO.cons ?_ | (refine WO.nil ?_; simp only [tN, bN, eN, true_and]) | (apply WO1.rd; exact payR; exact rfl; simp only [pM, pN, rR, rP]) | (refine WO1.gyes (b := true) rfl rfl ?_ rfl ?_; exact payD) | (refine WO1.gno (b := true) rfl rfl ?_ rfl ?_; exact payD; simp only [pM, pN, rR, rP]) | (refine WO1.gyes (b := false) rfl rfl ?_ rfl ?_; exact payD) | (refine WO1.gno (b := false) rfl rfl ?_ rfl ?_; exact payD; simp only [pM, pN, rR, rP]) | (apply WO1.gsplit; exact rfl; exact rfl; exact payR; refine ⟨fun hh => ?_, fun hh => ?_⟩ <;> try simp only [Bool.not_true, Bool.not_false, pM, pN] at hh ⊢) | (apply WO1.call; exact payR; exact payR; (focus (simp only [List.nil_append, List.append_nil]; first | exact k33a _ | exact k33b _)); simp only [pM, pN, rR, rP]) | (apply WO1.ef; exact rfl; exact payE; simp only [pM, pN, rR, rP]) | (simp only [tP, bP, eP, true_and]) | (refine W.ret ?_; simp only [tR, bR, eR, true_and]) | (refine W.skip ?_; simp only [tN, bN, eN, true_and]) | (refine W.exit ?_; simp only [tX, bS, bO, Nat.reduceBEq, tN, bN]) | (refine W.condT ?_ ?_; exact payD) | (refine W.condF ?_ ?_; exact payD) | (apply W.condB; exact payR; refine ⟨fun hh => ?_, fun hh => ?_⟩))
        refine ⟨hki, _, _, rfl, ?_, ?_, ?_, ?_, ?_, ?_, by omega⟩
        all_goals exact payD
      · have hd : decide ((k : Int) < (i : Int)) = false := by simpa using hki
        clear hki hk
        repeat' (first | (refine ⟨⟨trivial, trivial⟩, ?_⟩) | (refine ⟨⟨rfl, rfl⟩, ?_⟩) | (refine WQ.cons rfl rfl ?_) | (refine WT.cons rfl rfl ?_) | (refine WQ.nil ?_) | (refine WT.nil ?_; simp only [tN, bN, eN, true_and]) | (apply WQ.alloc; exact rfl; exact rfl; exact payR; simp only [pM, pN]) | refine W.seq ?_ | refine W.region ?_ | refine W.block ?_ | refine W.scope ?_ | refine WO.cons ?_ | (refine WO.nil ?_; simp only [tN, bN, eN, true_and]) | (apply WO1.rd; exact payR; exact rfl; simp only [pM, pN, rR, rP]) | (refine WO1.gyes (b := true) rfl rfl ?_ rfl ?_; exact payD) | (refine WO1.gno (b := true) rfl rfl ?_ rfl ?_; exact payD; simp only [pM, pN, rR, rP]) | (refine WO1.gyes (b := false) rfl rfl ?_ rfl ?_; exact payD) | (refine WO1.gno (b := false) rfl rfl ?_ rfl ?_; exact payD; simp only [pM, pN, rR, rP]) | (apply WO1.gsplit; exact rfl; exact rfl; exact payR; refine ⟨fun hh => ?_, fun hh => ?_⟩ <;> try simp only [Bool.not_true, Bool.not_false, pM, pN] at hh ⊢) | (apply WO1.ef; exact rfl; exact payE; simp only [pM, pN, rR, rP]) | (simp only [tP, bP, eP, true_and]) | (refine W.ret ?_; simp only [tR, bR, eR, true_and]) | (refine W.skip ?_; simp only [tN, bN, eN, true_and]) | (refine W.exit ?_; simp only [tX, bS, bO, Nat.reduceBEq, tN, bN]) | (refine W.condT ?_ ?_; exact payD) | (refine W.condF ?_ ?_; exact payD) | (apply W.condB; exact payR; refine ⟨fun hh => ?_, fun hh => ?_⟩))
        refine ⟨hlt, _, _, rfl, ?_, ?_, ?_, ?_, ?_, by omega⟩
        all_goals exact payD
    · have hd : decide ((i : Int) < (ps.length : Int)) = false := by simpa using hlt
      have f0 : ((0 : Int) == 0) = true := rfl
      have f1 : ((5 : Int) == 0) = false := rfl
      have f2 : ((5 : Int) == 5) = true := rfl
      clear hlt
      cases ma with
      | none =>
        cases mb with
        | some m => simp at hmt
        | none =>
          have k34a := k34a'
          have k34b := k34b'
          simp only [matchR] at k34a k34b
          clear k34a' k34b' hmt
          repeat' (first | (refine ⟨⟨trivial, trivial⟩, ?_⟩) | (refine ⟨⟨rfl, rfl⟩, ?_⟩) | (refine WQ.cons rfl rfl ?_) | (refine WT.cons rfl rfl ?_) | (refine WQ.nil ?_) | (refine WT.nil ?_; simp only [tN, bN, eN, true_and]) | (apply WQ.alloc; exact rfl; exact rfl; exact payR; simp only [pM, pN]) | refine W.seq ?_ | refine W.region ?_ | refine W.block ?_ | refine W.scope ?_ | refine WO.cons ?_ | (refine WO.nil ?_; simp only [tN, bN, eN, true_and]) | (apply WO1.rd; exact payR; exact rfl; simp only [pM, pN, rR, rP]) | (refine WO1.gyes (b := true) rfl rfl ?_ rfl ?_; exact payD) | (refine WO1.gno (b := true) rfl rfl ?_ rfl ?_; exact payD; simp only [pM, pN, rR, rP]) | (refine WO1.gyes (b := false) rfl rfl ?_ rfl ?_; exact payD) | (refine WO1.gno (b := false) rfl rfl ?_ rfl ?_; exact payD; simp only [pM, pN, rR, rP]) | (apply WO1.gsplit; exact rfl; exact rfl; exact payR; refine ⟨fun hh => ?_, fun hh => ?_⟩ <;> try simp only [Bool.not_true, Bool.not_false, pM, pN] at hh ⊢) | (apply WO1.call; exact payR; exact payR; (focus (simp only [List.nil_append, List.append_nil]; first | exact k34a _ | exact k34b _ | exact k25 _)); simp only [pM, pN, rR, rP]) | (apply WO1.ef; exact rfl; exact payE; simp only [pM, pN, rR, rP]) | (simp only [tP, bP, eP, true_and]) | (refine W.ret ?_; simp only [tR, bR, eR, true_and]) | (refine W.skip ?_; simp only [tN, bN, eN, true_and]) | (refine W.exit ?_; simp only [tX, bS, bO, Nat.reduceBEq, tN, bN]) | (refine W.condT ?_ ?_; exact payD) | (refine W.condF ?_ ?_; exact payD) | (apply W.condB; exact payR; refine ⟨fun hh => ?_, fun hh => ?_⟩))
          all_goals simp only [resV_def (X := dX c4) Tryz.func4, Tryz.results4, resultsV, resultV, go_sem, *, Nat.reduceLT, Int.reduceEq, Int.reduceBEq, Int.reduceLE, Int.reduceLT, Nat.reduceAdd, Nat.reduceBEq, Nat.reduceEqDiff, reduceIte, Nat.reduceLeDiff, Nat.reduceMul, Nat.reduceSub, reduceCtorEq, frzRes, dFrz, frzCells, isRet_ret, tupleOf]
      | some m =>
        cases mb with
        | none => simp at hmt
        | some m' =>
          obtain ⟨t, o⟩ := m
          obtain ⟨t', o'⟩ := m'
          have k34a := k34a'
          have k34b := k34b'
          simp only [matchR] at k34a k34b
          obtain ⟨q1, q2, _⟩ := slN_nats o
          obtain ⟨q3, q4, _⟩ := slN_nats o'
          generalize slN (natsV o) = w1 at *
          generalize slN (natsV o') = w2 at *
          clear k34a' k34b' hmt
          repeat' (first | (refine ⟨⟨trivial, trivial⟩, ?_⟩) | (refine ⟨⟨rfl, rfl⟩, ?_⟩) | (refine WQ.cons rfl rfl ?_) | (refine WT.cons rfl rfl ?_) | (refine WQ.nil ?_) | (refine WT.nil ?_; simp only [tN, bN, eN, true_and]) | (apply WQ.alloc; exact rfl; exact rfl; exact payR; simp only [pM, pN]) | refine W.seq ?_ | refine W.region ?_ | refine W.block ?_ | refine W.scope ?_ | refine WO.cons ?_ | (refine WO.nil ?_; simp only [tN, bN, eN, true_and]) | (apply WO1.rd; exact payR; exact rfl; simp only [pM, pN, rR, rP]) | (refine WO1.gyes (b := true) rfl rfl ?_ rfl ?_; exact payD) | (refine WO1.gno (b := true) rfl rfl ?_ rfl ?_; exact payD; simp only [pM, pN, rR, rP]) | (refine WO1.gyes (b := false) rfl rfl ?_ rfl ?_; exact payD) | (refine WO1.gno (b := false) rfl rfl ?_ rfl ?_; exact payD; simp only [pM, pN, rR, rP]) | (apply WO1.gsplit; exact rfl; exact rfl; exact payR; refine ⟨fun hh => ?_, fun hh => ?_⟩ <;> try simp only [Bool.not_true, Bool.not_false, pM, pN] at hh ⊢) | (apply WO1.call; exact payR; exact payR; (focus (simp only [List.nil_append, List.append_nil]; first | exact k34a _ | exact k34b _ | exact k25 _)); simp only [pM, pN, rR, rP]) | (apply WO1.ef; exact rfl; exact payE; simp only [pM, pN, rR, rP]) | (simp only [tP, bP, eP, true_and]) | (refine W.ret ?_; simp only [tR, bR, eR, true_and]) | (refine W.skip ?_; simp only [tN, bN, eN, true_and]) | (refine W.exit ?_; simp only [tX, bS, bO, Nat.reduceBEq, tN, bN]) | (refine W.condT ?_ ?_; exact payD) | (refine W.condF ?_ ?_; exact payD) | (apply W.condB; exact payR; refine ⟨fun hh => ?_, fun hh => ?_⟩))
          all_goals simp only [resV_def (X := dX c4) Tryz.func4, Tryz.results4, resultsV, resultV, go_sem, *, Nat.reduceLT, Int.reduceEq, Int.reduceBEq, Int.reduceLE, Int.reduceLT, Nat.reduceAdd, Nat.reduceBEq, Nat.reduceEqDiff, reduceIte, Nat.reduceLeDiff, Nat.reduceMul, Nat.reduceSub, reduceCtorEq, frzRes, dFrz, frzCells, isRet_ret, tupleOf]
  · clear hc hl g1 g2 v1 v2
    generalize measB hs off = b1 at *
    generalize inB turn 0 7 = b2 at *
    generalize pointsB ps hs.length hs.length 80 = b3 at *
    refine ClR.walk (c := _) rfl Tryz.func4 rfl (by kernel_rfl) rfl isRet_fail ?_
    simp only [entryEnv, Nat.reduceAdd, emptyHp]
    cases b1 <;> cases b2 <;> cases b3
    case true.true.true => exact absurd ⟨rfl, rfl, rfl⟩ hall
    all_goals clear hall
    all_goals (
      repeat' (first | (refine ⟨⟨trivial, trivial⟩, ?_⟩) | (refine ⟨⟨rfl, rfl⟩, ?_⟩) | (refine WQ.cons rfl rfl ?_) | (refine WT.cons rfl rfl ?_) | (refine WQ.nil ?_) | (refine WT.nil ?_; simp only [tN, bN, eN, true_and]) | (apply WQ.alloc; exact rfl; exact rfl; exact payR; simp only [pM, pN]) | refine W.seq ?_ | refine W.region ?_ | refine W.block ?_ | refine W.scope ?_ | refine WO.cons ?_ | (refine WO.nil ?_; simp only [tN, bN, eN, true_and]) | (apply WO1.rd; exact payR; exact rfl; simp only [pM, pN, rR, rP]) | (refine WO1.gyes (b := true) rfl rfl ?_ rfl ?_; exact payD) | (refine WO1.gno (b := true) rfl rfl ?_ rfl ?_; exact payD; simp only [pM, pN, rR, rP]) | (refine WO1.gyes (b := false) rfl rfl ?_ rfl ?_; exact payD) | (refine WO1.gno (b := false) rfl rfl ?_ rfl ?_; exact payD; simp only [pM, pN, rR, rP]) | (apply WO1.gsplit; exact rfl; exact rfl; exact payR; refine ⟨fun hh => ?_, fun hh => ?_⟩ <;> try simp only [Bool.not_true, Bool.not_false, pM, pN] at hh ⊢) | (apply WO1.call; exact payR; exact payR; (focus (simp only [List.nil_append, List.append_nil]; first | exact k31 _ | exact k27 _ | exact k28 _ | exact k25 _)); simp only [pM, pN, rR, rP]) | (apply WO1.ef; exact rfl; exact payE; simp only [pM, pN, rR, rP]) | (simp only [tP, bP, eP, true_and]) | (refine W.ret ?_; simp only [tR, bR, eR, true_and]) | (refine W.skip ?_; simp only [tN, bN, eN, true_and]) | (refine W.exit ?_; simp only [tX, bS, bO, Nat.reduceBEq, tN, bN]) | (refine W.condT ?_ ?_; exact payD) | (refine W.condF ?_ ?_; exact payD) | (apply W.condB; exact payR; refine ⟨fun hh => ?_, fun hh => ?_⟩))
      all_goals simp only [resV_def (X := dX c4) Tryz.func4, Tryz.results4, resultsV, resultV, go_sem, *, Nat.reduceLT, Int.reduceEq, Int.reduceBEq, Int.reduceLE, Int.reduceLT, Nat.reduceAdd, Nat.reduceBEq, Nat.reduceEqDiff, reduceIte, Nat.reduceLeDiff, Nat.reduceMul, Nat.reduceSub, reduceCtorEq, frzRes, dFrz, frzCells, isRet_ret, tupleOf])
end Go.AM
set_option maxRecDepth 100000
namespace Go.AM
open Go Go.Proofs
variable [Keep]
attribute [local irreducible] W WO WO1 WD WQ WT thenQ blockQ endR isRet retK Cl ClR
theorem w64_pred {n : Nat} (h : n ≤ 4) : w64 ((n : Int) - 1) = (n : Int) - 1 := wrap_small (by omega) (by omega)
theorem order_nat {o : List Int} {n : Nat} (hn : n ≤ 4) (h : orderB o n = true) : ∃ p : List Nat, o = p.map (fun k : Nat => (k : Int)) ∧ IsOrd n p := by
  unfold orderB at h
  simp only [Bool.and_eq_true, beq_iff_eq] at h
  obtain ⟨h1, h2⟩ := h
  have hat : ∀ i, i < o.length → ordAt o n i = true := fun i hi => List.all_eq_true.1 h1 i (by simpa using hi)
  have hin : ∀ i, i < o.length → 0 ≤ o.getD i 0 ∧ o.getD i 0 ≤ (n : Int) - 1 := fun i hi => by
    have := hat i hi
    unfold ordAt at this
    rw [w64_pred hn] at this
    simp only [inB, Bool.and_eq_true, decide_eq_true_eq] at this
    omega
  have hne : ∀ i k, i < o.length → k < i → o.getD i 0 ≠ o.getD k 0 := fun i k hi hk e => by
    have := hat i hi
    unfold ordAt at this
    simp only [Bool.and_eq_true] at this
    have h3 := List.all_eq_true.1 this.1 k (by simpa using hk)
    rw [e] at h3
    simp at h3
  have hget : ∀ i (hi : i < o.length), o.getD i 0 = o[i] := fun i hi => by simp [List.getD, hi]
  refine ⟨o.map Int.toNat, ?_, ⟨by rw [List.length_map]; omega, fun k hk => ?_, ?_⟩⟩
  · rw [List.map_map]
    conv => lhs; rw [← List.map_id o]
    refine List.map_congr_left fun x hx => ?_
    obtain ⟨i, hi, rfl⟩ := List.mem_iff_getElem.1 hx
    have := hin i hi
    rw [hget i hi] at this
    show o[i] = ((o[i].toNat : Nat) : Int)
    omega
  · obtain ⟨x, hx, rfl⟩ := List.mem_map.1 hk
    obtain ⟨i, hi, rfl⟩ := List.mem_iff_getElem.1 hx
    have := hin i hi
    rw [hget i hi] at this
    omega
  · unfold List.Nodup
    rw [List.pairwise_iff_getElem]
    intro i j hi hj hij e
    rw [List.length_map] at hi hj
    simp only [List.getElem_map] at e
    have a := hin i hi
    have b := hin j hj
    rw [hget i hi] at a
    rw [hget j hj] at b
    refine hne j i hj hij ?_
    rw [hget i hi, hget j hj]
    omega
theorem nat_order {n : Nat} (hn : n ≤ 4) {p : List Nat} (h : IsOrd n p) : orderB (p.map fun k : Nat => (k : Int)) n = true := by
  unfold orderB
  simp only [Bool.and_eq_true, beq_iff_eq, List.length_map]
  refine ⟨List.all_eq_true.2 fun i hi => ?_, by rw [h.len]⟩
  have hi : i < p.length := by simpa using hi
  have hg : ∀ j, j < p.length → ∃ v, (p.map fun k : Nat => (k : Int)).getD j 0 = ((v : Nat) : Int) ∧ p[j]? = some v := fun j hj => by
    obtain ⟨v, hv⟩ := get_some hj
    exact ⟨v, by simp [List.getD, hv], hv⟩
  obtain ⟨v, e1, hv⟩ := hg i hi
  have hvn := h.lt v (List.mem_of_getElem? hv)
  unfold ordAt
  rw [w64_pred hn, e1]
  simp only [Bool.and_eq_true, inB, decide_eq_true_eq]
  refine ⟨List.all_eq_true.2 fun k hk => ?_, by omega⟩
  have hk : k < i := by simpa using hk
  obtain ⟨u, e2, hu⟩ := hg k (by omega)
  rw [e2]
  have hnd := h.nd
  unfold List.Nodup at hnd
  rw [List.pairwise_iff_getElem] at hnd
  have := hnd k i (by omega) hi hk
  rw [List.getElem?_eq_getElem (by omega)] at hv hu
  have hvu : v ≠ u := fun e => this (by rw [Option.some.inj hu, Option.some.inj hv, e])
  simp
  omega
theorem bef_lex : ∀ (p q : List Nat), befB (p.map fun k : Nat => (k : Int)) (q.map fun k : Nat => (k : Int)) = lexB p q := by
  intro p
  induction p with
  | nil => intro q; cases q <;> rfl
  | cons a p ih =>
    intro q
    cases q with
    | nil => rfl
    | cons b q =>
      simp only [List.map_cons, befB, lexB, ih]
      by_cases e : a = b
      · rw [if_pos e, if_pos (by omega)]
      · rw [if_neg e, if_neg (by omega)]
        simp
theorem off_eq {off : Int} {p q : Pt} (h0 : 0 ≤ off) (h6 : off ≤ 6) (hp : okPt 80 p = true) (hq : okPt 80 q = true) :
    offB off p q = (!decide (w64 (p.x - q.x) > off) && !decide (w64 (q.x - p.x) > off) && !decide (w64 (p.y - q.y) > off) && !decide (w64 (q.y - p.y) > off)) := by
  rw [ok80] at hp hq
  have e1 : w64 (p.x - q.x) = p.x - q.x := wrap_small (by omega) (by omega)
  have e2 : w64 (q.x - p.x) = q.x - p.x := wrap_small (by omega) (by omega)
  have e3 : w64 (p.y - q.y) = p.y - q.y := wrap_small (by omega) (by omega)
  have e4 : w64 (q.y - p.y) = q.y - p.y := wrap_small (by omega) (by omega)
  have e5 : w64 (-off) = -off := wrap_small (by omega) (by omega)
  simp only [offB, okPt, inB, e1, e2, e3, e4, e5]
  rw [Bool.eq_iff_iff]
  simp
  omega
def gd36 (hs ps : List Pt) (off turn : Int) (o : List Int) : Bool := measB hs off && pointsB ps hs.length hs.length 80 && inB turn 0 7 && orderB o ps.length
def sp36 : List AV → Option AV
  | [la, .int .i64 turn, oa, ca, .int .i64 off] => match slV ptC la, slV intC oa, slV ptC ca with
    | some ps, some o, some hs => if gd36 hs ps off turn o = true then some (.bool (accB off hs ps turn (o.map Int.toNat))) else none
    | _, _, _ => none
  | _ => none
theorem p36 : ∀ args v, sp36 args = some v → v.pur = true := by
  intro args v h
  unfold sp36 at h
  split at h
  · split at h
    · split at h
      · have h := Option.some.inj h
        subst h
        rfl
      · cases h
    · cases h
  · cases h
noncomputable def cGH : FuncId → Option (List AV → Heap → Option (AV × Heap))
  | 32 => some (pureFn sp32)
  | _ => none
theorem cGH_sound : Sound (dX cGH) := dX_sound (fun f g h => by
  unfold cGH at h
  split at h
  · cases h; exact F32
  · cases h)
theorem meas_ok {l : List Pt} {off : Int} (h : measB l off = true) : l.all (okPt 80) = true ∧ 0 ≤ off ∧ off ≤ 6 := by
  unfold measB at h
  rw [allB_P] at h
  simp only [pointsB, inB, Bool.and_eq_true, decide_eq_true_eq] at h
  refine ⟨List.all_eq_true.2 fun p hp => ?_, by omega⟩
  have := List.all_eq_true.1 h.1.2.1 p hp
  have e : w64 (-20) = -20 := rfl
  simp only [okPt, inB, e, Bool.and_eq_true, decide_eq_true_eq] at this
  rw [ok80]
  omega
attribute [local irreducible] againS measB orderB
theorem toNat_map (p : List Nat) : (p.map fun k : Nat => (k : Int)).map Int.toNat = p := by
  rw [List.map_map]
  conv => rhs; rw [← List.map_id p]
  rfl
set_option maxHeartbeats 8000000 in
theorem F36 : IntrFn Tryz.prog 36 (pureFn sp36) := by
  refine pure_fn (X := dX cGH) cGH_sound p36 ?_
  intro args v h
  unfold sp36 at h
  split at h
  · rename_i la turn oa ca off
    split at h
    · rename_i ps os hs hl ho hc
      split at h
      · rename_i hg
        have h := Option.some.inj h
        subst h
        unfold gd36 at hg
        simp only [Bool.and_eq_true] at hg
        obtain ⟨⟨⟨m1, m3⟩, m2⟩, m4⟩ := hg
        have hms := meas_len m1
        obtain ⟨hho, hof0, hof6⟩ := meas_ok m1
        have hin := m2
        simp only [inB, Bool.and_eq_true, decide_eq_true_eq] at hin
        obtain ⟨s, rfl⟩ : ∃ s : Nat, turn = s := ⟨turn.toNat, by omega⟩
        have hs8 : s < 8 := by omega
        simp only [pointsB, inB, Bool.and_eq_true, decide_eq_true_eq] at m3
        obtain ⟨hok, hln⟩ := m3
        have hlen : hs.length = ps.length := by omega
        have hl4 : ps.length ≤ 4 := by omega
        obtain ⟨p, rfl, hord⟩ := order_nat hl4 m4
        rw [toNat_map]
        have a1 := again_ok hs8 1 ps hok hl4
        have hx1 : iter (List.map (turnP (s : Nat))) 1 ps = ps.map (turnP (s : Nat)) := rfl
        rw [hx1] at a1
        have hmax : ps.length ≤ maxL := by unfold maxL; omega
        have k32 : ∀ h, Cl (dX cGH) 32 [la, .int .i64 ↑s, .int .i64 1] h (.ret (slN ((ps.map (turnP (s : Nat))).map ptC.enc)) h none) := fun h => by
          have := K32 (X := dX cGH) rfl la ps s 1 hl rfl h
          rw [show (1 : Int).toNat = 1 from rfl, a1] at this
          exact this
        have sxw : slV ptC (slN ((ps.map (turnP (s : Nat))).map ptC.enc)) = some (ps.map (turnP (s : Nat))) := slV_slN (by rw [List.length_map]; exact hmax)
        have o1 := sl_out hl
        have o2 := sl_out ho
        have o3 := sl_out hc
        have o4 := sl_out sxw
        have l3 := sl_len hc
        have l4 := sl_len sxw
        rw [List.length_map] at l4
        rw [hlen] at l3
        have hnn : ((ps.length : Int) != (ps.length : Int)) = false := by simp
        have hmi : ∀ i p, ps[i]? = some p → (ps.map (turnP (s : Nat)))[i]? = some (turnP (s : Nat) p) := fun i p h => by rw [List.getElem?_map, h]; rfl
        have HMI := Lib.hid hmi
        have HO := Lib.hid ho
        have HC := Lib.hid hc
        have HSX := Lib.hid sxw
        have HOK := Lib.hid hok
        have HHO := Lib.hid hho
        have HS8 := Lib.hid hs8
        have HLEN := Lib.hid hlen
        have HORD := Lib.hid hord
        have HMX := Lib.hid hmax
        generalize hres : accB off hs ps (s : Nat) p = res
        have HR := Lib.hid hres
        clear hl ho hc m1 m2 m4 hms hin hok hln hlen a1 hx1 hmax sxw hmi hho hs8 hl4 hord hres
        generalize ps.map (turnP (s : Nat)) = xs at *
        generalize slN (xs.map ptC.enc) = xw at *
        refine ClR.walk (c := _) rfl Tryz.func36 rfl (by kernel_rfl) rfl isRet_fail ?_
        simp only [entryEnv, Nat.reduceAdd, emptyHp]
        repeat' (first | (refine ⟨⟨trivial, trivial⟩, ?_⟩) | (refine ⟨⟨rfl, rfl⟩, ?_⟩) | (refine WQ.cons rfl rfl ?_) | (refine WT.cons rfl rfl ?_) | (refine WQ.nil ?_) | (refine WT.nil ?_; simp only [tN, bN, eN, true_and]) | (apply WQ.alloc; exact rfl; exact rfl; exact payR; simp only [pM, pN]) | refine W.seq ?_ | refine W.region ?_ | refine W.block ?_ | refine W.scope ?_ | refine WO.cons ?_ | (refine WO.nil ?_; simp only [tN, bN, eN, true_and]) | (apply WO1.rd; exact payR; exact rfl; simp only [pM, pN, rR, rP]) | (refine WO1.gyes (b := true) rfl rfl ?_ rfl ?_; exact payD) | (refine WO1.gno (b := true) rfl rfl ?_ rfl ?_; exact payD; simp only [pM, pN, rR, rP]) | (refine WO1.gyes (b := false) rfl rfl ?_ rfl ?_; exact payD) | (refine WO1.gno (b := false) rfl rfl ?_ rfl ?_; exact payD; simp only [pM, pN, rR, rP]) | (apply WO1.gsplit; exact rfl; exact rfl; exact payR; refine ⟨fun hh => ?_, fun hh => ?_⟩ <;> try simp only [Bool.not_true, Bool.not_false, pM, pN] at hh ⊢) | (apply WO1.call; exact payR; exact payR; (focus (simp only [List.nil_append, List.append_nil]; first | exact k32 _)); simp only [pM, pN, rR, rP]) | (apply WO1.ef; exact rfl; exact payE; simp only [pM, pN, rR, rP]) | (simp only [tP, bP, eP, true_and]) | (refine W.ret ?_; simp only [tR, bR, eR, true_and]) | (refine W.skip ?_; simp only [tN, bN, eN, true_and]) | (refine W.exit ?_; simp only [tX, bS, bO, Nat.reduceBEq, tN, bN]) | (refine W.condT ?_ ?_; exact payD) | (refine W.condF ?_ ?_; exact payD) | (apply W.condB; exact payR; refine ⟨fun hh => ?_, fun hh => ?_⟩))
        refine W.loopN ps.length (fun i F => ∃ e lm, F = Fr.mk 36 false e lm ⟨0, .nil⟩ [] none ∧ (∀ j, j < i → offB off (turnP (s : Nat) (ps.getD (p.getD j 0) ⟨0, 0⟩)) (hs.getD j ⟨0, 0⟩) = true) ∧ e.get 2 = some oa ∧ e.get 3 = some ca ∧ e.get 4 = some (.int .i64 off) ∧ e.get 11 = some xw ∧ e.get 12 = some (.int .i64 ↑i) ∧ i ≤ ps.length) ?_ ?_
        · refine ⟨_, _, rfl, fun j hj => absurd hj (by omega), ?_, ?_, ?_, ?_, ?_, ?_⟩ <;> first | exact payD | simp [go_sem, *, Nat.reduceLT, Int.reduceEq, Int.reduceBEq, Int.reduceLE, Int.reduceLT, Nat.reduceAdd, Nat.reduceBEq, Nat.reduceEqDiff, reduceIte, Nat.reduceLeDiff, Nat.reduceMul, Nat.reduceSub, reduceCtorEq]
        clear k32
        rintro i F ⟨e, lm, rfl, hall, h2, h3, h4, h11, h12, hi⟩
        have HALL := Lib.hid hall
        clear hall
        by_cases hlt : i < ps.length
        · have hd : decide ((i : Int) < (ps.length : Int)) = true := by simpa using hlt
          have hw := wrap_succ hlt HMX.out
          obtain ⟨v, hv⟩ := get_some (show i < p.length by rw [HORD.out.len]; exact hlt)
          have hvn : v < ps.length := HORD.out.lt v (List.mem_of_getElem? hv)
          obtain ⟨a, ha⟩ := get_some hvn
          obtain ⟨q, hq⟩ := get_some (show i < hs.length by rw [HLEN.out]; exact hlt)
          have hpv : (p.map fun k : Nat => (k : Int))[i]? = some ((v : Nat) : Int) := by simp [hv]
          have hio := int_idx HO.out hpv
          have hix := pts_idx HSX.out (HMI.out v a ha)
          have hiy := pts_idx HC.out hq
          have hat := off_at (off := off) (t := (s : Nat)) hq hv ha
          have hof := off_eq hof0 hof6 (turn_ok HS8.out (List.all_eq_true.1 HOK.out a (List.mem_of_getElem? ha))) (List.all_eq_true.1 HHO.out q (List.mem_of_getElem? hq))
          have hno := fun hh => acc_no (off := off) (t := (s : Nat)) hq hv ha hh
          generalize turnP (s : Nat) a = b at *
          have w1 : IntKind.i64.wrap (b.x - q.x) = w64 (b.x - q.x) := rfl
          have w2 : IntKind.i64.wrap (q.x - b.x) = w64 (q.x - b.x) := rfl
          have w3 : IntKind.i64.wrap (b.y - q.y) = w64 (b.y - q.y) := rfl
          have w4 : IntKind.i64.wrap (q.y - b.y) = w64 (q.y - b.y) := rfl
          generalize w64 (b.x - q.x) = z1 at *
          generalize w64 (q.x - b.x) = z2 at *
          generalize w64 (b.y - q.y) = z3 at *
          generalize w64 (q.y - b.y) = z4 at *
          have HAT := Lib.hid hat
          have HOF := Lib.hid hof
          have HNO := Lib.hid hno
          clear hv ha hq hpv hat hof hno
          have h5 : decide (z1 > off) = true ∨ (decide (z1 > off) = false ∧ decide (z2 > off) = true) ∨ (decide (z1 > off) = false ∧ decide (z2 > off) = false ∧ decide (z3 > off) = true) ∨ (decide (z1 > off) = false ∧ decide (z2 > off) = false ∧ decide (z3 > off) = false ∧ decide (z4 > off) = true) ∨
            (decide (z1 > off) = false ∧ decide (z2 > off) = false ∧ decide (z3 > off) = false ∧ decide (z4 > off) = false) := by
            cases decide (z1 > off) <;> cases decide (z2 > off) <;> cases decide (z3 > off) <;> cases decide (z4 > off) <;> simp
          rcases h5 with x1 | ⟨x1, x2⟩ | ⟨x1, x2, x3⟩ | ⟨x1, x2, x3, x4⟩ | ⟨x1, x2, x3, x4⟩
          case inr.inr.inr.inr =>
            have HOK1 := Lib.hid (show offB off b q = true by rw [HOF.out, x1, x2, x3, x4]; rfl)
            repeat' (first | (apply W.draw (id := 7) (lc := [11, 12, 0, 1, 2, 3, 4, 5, 6, 7, 8, 9, 10, 13, 14]) (hot := [(9, 13), (10, 13)]); kernel_rfl; kernel_rfl; kernel_rfl; exact payP) | (apply WD.alloc (o := ⟨some 13, .alloc 38, 0, _, _, none⟩); exact rfl; exact rfl; exact payR; simp only [pM, pN]) | (apply WD.alloc (o := ⟨some 14, .alloc 38, 0, _, _, none⟩); exact rfl; exact rfl; exact payR; simp only [pM, pN]) | (apply WD.cons (o := ⟨some 39, .load 38 (.tmp 38), 38, _, _, none⟩); exact rfl; exact rfl) | (apply WD.cons (o := ⟨none, .store 38 (.tmp 13) (.tmp 35), _, _, _, none⟩); exact rfl; exact rfl) | (apply WD.cons (o := ⟨none, .store 38 (.tmp 14) (.tmp 39), _, _, _, none⟩); exact rfl; exact rfl) | (refine WD.nil ⟨?_, ?_⟩; rotate_left; simp only [tN, bN, eN, true_and]) | (refine WD.cons rfl rfl ?_) | (refine calm_rd rfl rfl rfl rfl rfl ?_ ?_; (focus (first | exact payD | exact payR))) | (with_reducible refine calm_end) | (refine ⟨⟨trivial, trivial⟩, ?_⟩) | (refine ⟨⟨rfl, rfl⟩, ?_⟩) | (refine WQ.cons rfl rfl ?_) | (refine WT.cons rfl rfl ?_) | (refine WQ.nil ?_) | (refine WT.nil ?_; simp only [tN, bN, eN, true_and]) | (apply WQ.alloc; exact rfl; exact rfl; exact payR; simp only [pM, pN]) | refine W.seq ?_ | refine W.region ?_ | refine W.block ?_ | refine W.scope ?_ | refine WO.cons ?_ | (refine WO.nil ?_; simp only [tN, bN, eN, true_and]) | (apply WO1.rd; exact payR; exact rfl; simp only [pM, pN, rR, rP]) | (refine WO1.gyes (b := true) rfl rfl ?_ rfl ?_; exact payD) | (refine WO1.gno (b := true) rfl rfl ?_ rfl ?_; exact payD; simp only [pM, pN, rR, rP]) | (refine WO1.gyes (b := false) rfl rfl ?_ rfl ?_; exact payD) | (refine WO1.gno (b := false) rfl rfl ?_ rfl ?_; exact payD; simp only [pM, pN, rR, rP]) | (apply WO1.gsplit; exact rfl; exact rfl; exact payR; refine ⟨fun hh => ?_, fun hh => ?_⟩ <;> try simp only [Bool.not_true, Bool.not_false, pM, pN] at hh ⊢) | (apply WO1.ef; exact rfl; exact payE; simp only [pM, pN, rR, rP]) | (simp only [tP, bP, eP, true_and]) | (refine W.ret ?_; simp only [tR, bR, eR, true_and]) | (refine W.skip ?_; simp only [tN, bN, eN, true_and]) | (refine W.exit ?_; simp only [tX, bS, bO, Nat.reduceBEq, tN, bN]) | (refine W.condT ?_ ?_; exact payD) | (refine W.condF ?_ ?_; exact payD) | (apply W.condB; exact payR; refine ⟨fun hh => ?_, fun hh => ?_⟩))
            refine ⟨hlt, _, _, rfl, fun j hj => ?_, ?_, ?_, ?_, ?_, ?_, by omega⟩
            · rcases Nat.lt_or_ge j i with q | q
              · exact HALL.out j q
              · obtain rfl : j = i := by omega
                rw [HAT.out]; exact HOK1.out
            all_goals exact payD
          all_goals (
            have HF := Lib.hid (show accB off hs ps (s : Nat) p = false from HNO.out (by rw [HOF.out]; simp [*]))
            repeat' (first | (apply W.draw (id := 7) (lc := [11, 12, 0, 1, 2, 3, 4, 5, 6, 7, 8, 9, 10, 13, 14]) (hot := [(9, 13), (10, 13)]); kernel_rfl; kernel_rfl; kernel_rfl; exact payP) | (apply WD.alloc (o := ⟨some 13, .alloc 38, 0, _, _, none⟩); exact rfl; exact rfl; exact payR; simp only [pM, pN]) | (apply WD.alloc (o := ⟨some 14, .alloc 38, 0, _, _, none⟩); exact rfl; exact rfl; exact payR; simp only [pM, pN]) | (apply WD.cons (o := ⟨some 39, .load 38 (.tmp 38), 38, _, _, none⟩); exact rfl; exact rfl) | (apply WD.cons (o := ⟨none, .store 38 (.tmp 13) (.tmp 35), _, _, _, none⟩); exact rfl; exact rfl) | (apply WD.cons (o := ⟨none, .store 38 (.tmp 14) (.tmp 39), _, _, _, none⟩); exact rfl; exact rfl) | (refine WD.nil ⟨?_, ?_⟩; rotate_left; simp only [tN, bN, eN, true_and]) | (refine WD.cons rfl rfl ?_) | (refine calm_rd rfl rfl rfl rfl rfl ?_ ?_; (focus (first | exact payD | exact payR))) | (with_reducible refine calm_end) | (refine ⟨⟨trivial, trivial⟩, ?_⟩) | (refine ⟨⟨rfl, rfl⟩, ?_⟩) | (refine WQ.cons rfl rfl ?_) | (refine WT.cons rfl rfl ?_) | (refine WQ.nil ?_) | (refine WT.nil ?_; simp only [tN, bN, eN, true_and]) | (apply WQ.alloc; exact rfl; exact rfl; exact payR; simp only [pM, pN]) | refine W.seq ?_ | refine W.region ?_ | refine W.block ?_ | refine W.scope ?_ | refine WO.cons ?_ | (refine WO.nil ?_; simp only [tN, bN, eN, true_and]) | (apply WO1.rd; exact payR; exact rfl; simp only [pM, pN, rR, rP]) | (refine WO1.gyes (b := true) rfl rfl ?_ rfl ?_; exact payD) | (refine WO1.gno (b := true) rfl rfl ?_ rfl ?_; exact payD; simp only [pM, pN, rR, rP]) | (refine WO1.gyes (b := false) rfl rfl ?_ rfl ?_; exact payD) | (refine WO1.gno (b := false) rfl rfl ?_ rfl ?_; exact payD; simp only [pM, pN, rR, rP]) | (apply WO1.gsplit; exact rfl; exact rfl; exact payR; refine ⟨fun hh => ?_, fun hh => ?_⟩ <;> try simp only [Bool.not_true, Bool.not_false, pM, pN] at hh ⊢) | (apply WO1.ef; exact rfl; exact payE; simp only [pM, pN, rR, rP]) | (simp only [tP, bP, eP, true_and]) | (refine W.ret ?_; simp only [tR, bR, eR, true_and]) | (refine W.skip ?_; simp only [tN, bN, eN, true_and]) | (refine W.exit ?_; simp only [tX, bS, bO, Nat.reduceBEq, tN, bN]) | (refine W.condT ?_ ?_; exact payD) | (refine W.condF ?_ ?_; exact payD) | (apply W.condB; exact payR; refine ⟨fun hh => ?_, fun hh => ?_⟩))
            all_goals simp only [resV_def (X := dX cGH) Tryz.func36, Tryz.results36, resultsV, resultV, go_sem, *, Nat.reduceLT, Int.reduceEq, Int.reduceBEq, Int.reduceLE, Int.reduceLT, Nat.reduceAdd, Nat.reduceBEq, Nat.reduceEqDiff, reduceIte, Nat.reduceLeDiff, Nat.reduceMul, Nat.reduceSub, reduceCtorEq, frzRes, dFrz, frzCells, isRet_ret, tupleOf]
            rw [← HR.out, HF.out])
        · have hd : decide ((i : Int) < (ps.length : Int)) = false := by simpa using hlt
          have hii : i = ps.length := by omega
          have HA := Lib.hid (show accB off hs ps (s : Nat) p = true from all_yes fun j hj => HALL.out j (by rw [HLEN.out] at hj; omega))
          clear hii
          repeat' (first | (refine ⟨⟨trivial, trivial⟩, ?_⟩) | (refine ⟨⟨rfl, rfl⟩, ?_⟩) | (refine WQ.cons rfl rfl ?_) | (refine WT.cons rfl rfl ?_) | (refine WQ.nil ?_) | (refine WT.nil ?_; simp only [tN, bN, eN, true_and]) | (apply WQ.alloc; exact rfl; exact rfl; exact payR; simp only [pM, pN]) | refine W.seq ?_ | refine W.region ?_ | refine W.block ?_ | refine W.scope ?_ | refine WO.cons ?_ | (refine WO.nil ?_; simp only [tN, bN, eN, true_and]) | (apply WO1.rd; exact payR; exact rfl; simp only [pM, pN, rR, rP]) | (refine WO1.gyes (b := true) rfl rfl ?_ rfl ?_; exact payD) | (refine WO1.gno (b := true) rfl rfl ?_ rfl ?_; exact payD; simp only [pM, pN, rR, rP]) | (refine WO1.gyes (b := false) rfl rfl ?_ rfl ?_; exact payD) | (refine WO1.gno (b := false) rfl rfl ?_ rfl ?_; exact payD; simp only [pM, pN, rR, rP]) | (apply WO1.gsplit; exact rfl; exact rfl; exact payR; refine ⟨fun hh => ?_, fun hh => ?_⟩ <;> try simp only [Bool.not_true, Bool.not_false, pM, pN] at hh ⊢) | (apply WO1.ef; exact rfl; exact payE; simp only [pM, pN, rR, rP]) | (simp only [tP, bP, eP, true_and]) | (refine W.ret ?_; simp only [tR, bR, eR, true_and]) | (refine W.skip ?_; simp only [tN, bN, eN, true_and]) | (refine W.exit ?_; simp only [tX, bS, bO, Nat.reduceBEq, tN, bN]) | (refine W.condT ?_ ?_; exact payD) | (refine W.condF ?_ ?_; exact payD) | (apply W.condB; exact payR; refine ⟨fun hh => ?_, fun hh => ?_⟩))
          all_goals simp only [resV_def (X := dX cGH) Tryz.func36, Tryz.results36, resultsV, resultV, go_sem, *, Nat.reduceLT, Int.reduceEq, Int.reduceBEq, Int.reduceLE, Int.reduceLT, Nat.reduceAdd, Nat.reduceBEq, Nat.reduceEqDiff, reduceIte, Nat.reduceLeDiff, Nat.reduceMul, Nat.reduceSub, reduceCtorEq, frzRes, dFrz, frzCells, isRet_ret, tupleOf]
          rw [← HR.out, HA.out]
      · cases h
    · cases h
  · cases h
end Go.AM
