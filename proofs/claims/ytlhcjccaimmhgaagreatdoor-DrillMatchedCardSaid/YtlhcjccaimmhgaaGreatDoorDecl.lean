/-
  Machines, as arguments.
-/
import Derived.Test.YtlhcjccaimmhgaaGreatDoorFnC
set_option linter.unusedSectionVars false
set_option linter.unusedVariables false
set_option linter.unusedSimpArgs false
set_option maxRecDepth 100000
namespace Go.AM
open Go Go.Proofs
variable [Keep]
attribute [local irreducible] W WO WO1 WD WQ WT thenQ blockQ endR isRet retK Cl ClR
def okRdg (p : Rdg) : Bool := inB p.b 0 12 && okPt 80 ⟨p.x, p.y⟩ && inB p.err 0 4
noncomputable def cQ : FuncId → Option (List AV → Heap → Option (AV × Heap))
  | 28 => some (flatFn sp28)
  | 93 => some (pureFn sp93)
  | 94 => some (flatFn sp94)
  | 97 => some (pureFn sp97)
  | 135 => some (pureFn sp135)
  | 149 => some (pureFn sp149)
  | 151 => some (pureFn sp151)
  | _ => none
theorem cQ_sound : Sound (dX cQ) := dX_sound (fun f g h => by
  unfold cQ at h
  split at h
  · cases h; exact F28
  · cases h; exact F93
  · cases h; exact F94
  · cases h; exact F97
  · cases h; exact F135
  · cases h; exact F149
  · cases h; exact F151
  · cases h)
theorem C153 (p : Rdg) (hp : Heap) : Cl (dX cQ) 153 ([] ++ [rdgC.enc p] ++ []) hp (.ret (.bool (!okRdg p)) hp none) := by
  refine ClR.cl ?_
  refine ClR.walk (c := _) rfl Tryz.func153 rfl (by kernel_rfl) rfl (fun e => by cases e) ?_
  simp only [List.nil_append, List.cons_append, rdgC, entryEnv, Nat.reduceAdd]
  repeat' (first | (refine ⟨⟨trivial, trivial⟩, ?_⟩) | (refine ⟨⟨rfl, rfl⟩, ?_⟩) | (refine WQ.cons rfl rfl ?_) | (refine WT.cons rfl rfl ?_) | (refine WQ.nil ?_) | (refine WT.nil ?_; simp only [tN, bN, eN, true_and]) | (apply WQ.alloc; exact rfl; exact rfl; exact payR; simp only [pM, pN]) | refine W.seq ?_ | refine W.region ?_ | refine W.block ?_ | refine W.scope ?_ | refine WO.cons ?_ | (refine WO.nil ?_; simp only [tN, bN, eN, true_and]) | (apply WO1.rd; exact payR; exact rfl; simp only [pM, pN, rR, rP]) | (refine WO1.gyes (b := true) rfl rfl ?_ rfl ?_; exact payD) | (refine WO1.gno (b := true) rfl rfl ?_ rfl ?_; exact payD; simp only [pM, pN, rR, rP]) | (refine WO1.gyes (b := false) rfl rfl ?_ rfl ?_; exact payD) | (refine WO1.gno (b := false) rfl rfl ?_ rfl ?_; exact payD; simp only [pM, pN, rR, rP]) | (apply WO1.gsplit; exact rfl; exact rfl; exact payR; refine ⟨fun hh => ?_, fun hh => ?_⟩ <;> try simp only [Bool.not_true, Bool.not_false, pM, pN] at hh ⊢) | (apply WO1.call; exact payR; exact payR; (focus (simp only [List.nil_append, List.append_nil]; first | exact K93 rfl _ _ _ _ | exact K149 rfl ⟨_, _⟩ _ _)); simp only [pM, pN, rR, rP]) | (apply WO1.ef; exact rfl; exact payE; simp only [pM, pN, rR, rP]) | (simp only [tP, bP, eP, true_and]) | (refine W.ret ?_; simp only [tR, bR, eR, true_and]) | (refine W.skip ?_; simp only [tN, bN, eN, true_and]) | (refine W.exit ?_; simp only [tX, bS, bO, Nat.reduceBEq, tN, bN]) | (refine W.condT ?_ ?_; exact payD) | (refine W.condF ?_ ?_; exact payD) | (apply W.condB; exact payR; refine ⟨fun hh => ?_, fun hh => ?_⟩))
  all_goals simp only [resV_def (X := dX cQ) Tryz.func153, Tryz.results153, resultsV, resultV, go_sem, *, Nat.reduceLT, Int.reduceEq, Int.reduceBEq, Int.reduceLE, Int.reduceLT, Nat.reduceAdd, Nat.reduceBEq, Nat.reduceEqDiff, reduceIte, Nat.reduceLeDiff, Nat.reduceMul, Nat.reduceSub, reduceCtorEq, frzRes, dFrz, frzCells, isRet_ret, tupleOf]
  all_goals simp [isR, okRdg, *]
set_option maxHeartbeats 400000 in
theorem C189 (c : FuncId → Option (List AV → Heap → Option (AV × Heap))) (hc : c 189 = none) (a : AV) (l : List Rdg) (ha : slV rdgC a = some l) (g : FuncId) (first capt : List AV) (pb : Rdg → Bool) (h : Heap)
    (hcall : ∀ p : Rdg, p ∈ l → Cl (dX c) g ((first ++ [rdgC.enc p]) ++ capt) h (.ret (.bool (pb p)) h none)) : Cl (dX c) 189 [a, .func (.func g) first capt] h (.ret (.int .i64 (idxOf pb l)) h none) := by
  refine ClR.cl ?_
  have hlen := sl_len ha
  have hout := sl_out ha
  have hmax := sl_max ha
  refine ClR.walk (c := _) hc Tryz.func189 rfl (by kernel_rfl) rfl (fun e => by cases e) ?_
  simp only [entryEnv, Nat.reduceAdd]
  repeat' (first | (refine ⟨⟨trivial, trivial⟩, ?_⟩) | (refine ⟨⟨rfl, rfl⟩, ?_⟩) | (refine WQ.cons rfl rfl ?_) | (refine WT.cons rfl rfl ?_) | (refine WQ.nil ?_) | (refine WT.nil ?_; simp only [tN, bN, eN, true_and]) | (apply WQ.alloc; exact rfl; exact rfl; exact payR; simp only [pM, pN]) | refine W.seq ?_ | refine W.region ?_ | refine W.block ?_ | refine W.scope ?_ | refine WO.cons ?_ | (refine WO.nil ?_; simp only [tN, bN, eN, true_and]) | (apply WO1.rd; exact payR; exact rfl; simp only [pM, pN, rR, rP]) | (refine WO1.gyes (b := true) rfl rfl ?_ rfl ?_; exact payD) | (refine WO1.gno (b := true) rfl rfl ?_ rfl ?_; exact payD; simp only [pM, pN, rR, rP]) | (refine WO1.gyes (b := false) rfl rfl ?_ rfl ?_; exact payD) | (refine WO1.gno (b := false) rfl rfl ?_ rfl ?_; exact payD; simp only [pM, pN, rR, rP]) | (apply WO1.gsplit; exact rfl; exact rfl; exact payR; refine ⟨fun hh => ?_, fun hh => ?_⟩ <;> try simp only [Bool.not_true, Bool.not_false, pM, pN] at hh ⊢) | (apply WO1.ef; exact rfl; exact payE; simp only [pM, pN, rR, rP]) | (simp only [tP, bP, eP, true_and]) | (refine W.ret ?_; simp only [tR, bR, eR, true_and]) | (refine W.skip ?_; simp only [tN, bN, eN, true_and]) | (refine W.exit ?_; simp only [tX, bS, bO, Nat.reduceBEq, tN, bN]) | (refine W.condT ?_ ?_; exact payD) | (refine W.condF ?_ ?_; exact payD) | (apply W.condB; exact payR; refine ⟨fun hh => ?_, fun hh => ?_⟩))
  refine W.loopN l.length (fun k F => ∃ e, F = Fr.mk 189 false e .nil h [] none ∧ (l.take k).all (fun x => !pb x) = true ∧ e.get 0 = some a ∧ e.get 1 = some (.func (.func g) first capt) ∧ e.get 7 = some (.int .i64 ↑l.length) ∧ e.get 8 = some (.int .i64 ↑k) ∧ k ≤ l.length) ?_ ?_
  · refine ⟨_, rfl, ?_, ?_, ?_, ?_, ?_, ?_⟩ <;> simp [go_sem, *, Nat.reduceLT, Int.reduceEq, Int.reduceBEq, Int.reduceLE, Int.reduceLT, Nat.reduceAdd, Nat.reduceBEq, Nat.reduceEqDiff, reduceIte, Nat.reduceLeDiff, Nat.reduceMul, Nat.reduceSub, reduceCtorEq]
  rintro k F ⟨e, rfl, hall, h0, h1, h7, h8, hk⟩
  have HA := Lib.hid hall
  clear hall
  by_cases hlt : k < l.length
  · obtain ⟨p, hp⟩ := get_some hlt
    have hix := rdg_idx ha hp
    have hcl := hcall p (List.mem_of_getElem? hp)
    have hd : decide ((k : Int) < (l.length : Int)) = true := by simpa using hlt
    have hw := wrap_succ hlt hmax
    have hnx := take_next hp
    have HI : pb p = true → idxOf pb l = k := idxOf_at HA.out hp
    have HH := Lib.hid HI
    clear ha hcall hp HI
    simp only [rdgC] at hcl
    repeat' (first | (apply WO1.call; exact payR; exact payR; (focus (exact hcl)); simp only [pM, pN, rR, rP]) | (refine ⟨⟨trivial, trivial⟩, ?_⟩) | (refine ⟨⟨rfl, rfl⟩, ?_⟩) | (refine WQ.cons rfl rfl ?_) | (refine WT.cons rfl rfl ?_) | (refine WQ.nil ?_) | (refine WT.nil ?_; simp only [tN, bN, eN, true_and]) | (apply WQ.alloc; exact rfl; exact rfl; exact payR; simp only [pM, pN]) | refine W.seq ?_ | refine W.region ?_ | refine W.block ?_ | refine W.scope ?_ | refine WO.cons ?_ | (refine WO.nil ?_; simp only [tN, bN, eN, true_and]) | (apply WO1.rd; exact payR; exact rfl; simp only [pM, pN, rR, rP]) | (refine WO1.gyes (b := true) rfl rfl ?_ rfl ?_; exact payD) | (refine WO1.gno (b := true) rfl rfl ?_ rfl ?_; exact payD; simp only [pM, pN, rR, rP]) | (refine WO1.gyes (b := false) rfl rfl ?_ rfl ?_; exact payD) | (refine WO1.gno (b := false) rfl rfl ?_ rfl ?_; exact payD; simp only [pM, pN, rR, rP]) | (apply WO1.gsplit; exact rfl; exact rfl; exact payR; refine ⟨fun hh => ?_, fun hh => ?_⟩ <;> try simp only [Bool.not_true, Bool.not_false, pM, pN] at hh ⊢) | (apply WO1.ef; exact rfl; exact payE; simp only [pM, pN, rR, rP]) | (simp only [tP, bP, eP, true_and]) | (refine W.ret ?_; simp only [tR, bR, eR, true_and]) | (refine W.skip ?_; simp only [tN, bN, eN, true_and]) | (refine W.exit ?_; simp only [tX, bS, bO, Nat.reduceBEq, tN, bN]) | (refine W.condT ?_ ?_; exact payD) | (refine W.condF ?_ ?_; exact payD) | (apply W.condB; exact payR; refine ⟨fun hh => ?_, fun hh => ?_⟩))
    all_goals first
      | (refine ⟨hlt, _, rfl, ?_, ?_, ?_, ?_, ?_, by omega⟩
         · have := HA.out
           rw [hnx]; simp_all
         all_goals exact payD)
      | (simp only [resV_def (X := dX c) Tryz.func189, Tryz.results189, resultsV, resultV, go_sem, *, Nat.reduceLT, Int.reduceEq, Int.reduceBEq, Int.reduceLE, Int.reduceLT, Nat.reduceAdd, Nat.reduceBEq, Nat.reduceEqDiff, reduceIte, Nat.reduceLeDiff, Nat.reduceMul, Nat.reduceSub, reduceCtorEq, frzRes, dFrz, frzCells, isRet_ret, tupleOf]
         have := HH.out hh
         simp [isR, frzRes, dX_frz, dFrz, this])
  · have hd : decide ((k : Int) < (l.length : Int)) = false := by simpa using hlt
    have hkl : k = l.length := by omega
    have h2 := HA.out
    rw [hkl, List.take_length] at h2
    have HI := Lib.hid (idxOf_none h2)
    clear ha hcall h2 hkl
    repeat' (first | (refine ⟨⟨trivial, trivial⟩, ?_⟩) | (refine ⟨⟨rfl, rfl⟩, ?_⟩) | (refine WQ.cons rfl rfl ?_) | (refine WT.cons rfl rfl ?_) | (refine WQ.nil ?_) | (refine WT.nil ?_; simp only [tN, bN, eN, true_and]) | (apply WQ.alloc; exact rfl; exact rfl; exact payR; simp only [pM, pN]) | refine W.seq ?_ | refine W.region ?_ | refine W.block ?_ | refine W.scope ?_ | refine WO.cons ?_ | (refine WO.nil ?_; simp only [tN, bN, eN, true_and]) | (apply WO1.rd; exact payR; exact rfl; simp only [pM, pN, rR, rP]) | (refine WO1.gyes (b := true) rfl rfl ?_ rfl ?_; exact payD) | (refine WO1.gno (b := true) rfl rfl ?_ rfl ?_; exact payD; simp only [pM, pN, rR, rP]) | (refine WO1.gyes (b := false) rfl rfl ?_ rfl ?_; exact payD) | (refine WO1.gno (b := false) rfl rfl ?_ rfl ?_; exact payD; simp only [pM, pN, rR, rP]) | (apply WO1.gsplit; exact rfl; exact rfl; exact payR; refine ⟨fun hh => ?_, fun hh => ?_⟩ <;> try simp only [Bool.not_true, Bool.not_false, pM, pN] at hh ⊢) | (apply WO1.ef; exact rfl; exact payE; simp only [pM, pN, rR, rP]) | (simp only [tP, bP, eP, true_and]) | (refine W.ret ?_; simp only [tR, bR, eR, true_and]) | (refine W.skip ?_; simp only [tN, bN, eN, true_and]) | (refine W.exit ?_; simp only [tX, bS, bO, Nat.reduceBEq, tN, bN]) | (refine W.condT ?_ ?_; exact payD) | (refine W.condF ?_ ?_; exact payD) | (apply W.condB; exact payR; refine ⟨fun hh => ?_, fun hh => ?_⟩))
    all_goals simp only [resV_def (X := dX c) Tryz.func189, Tryz.results189, resultsV, resultV, go_sem, *, Nat.reduceLT, Int.reduceEq, Int.reduceBEq, Int.reduceLE, Int.reduceLT, Nat.reduceAdd, Nat.reduceBEq, Nat.reduceEqDiff, reduceIte, Nat.reduceLeDiff, Nat.reduceMul, Nat.reduceSub, reduceCtorEq, frzRes, dFrz, frzCells, isRet_ret, tupleOf]
    have := HI.out
    simp [isR, frzRes, dX_frz, dFrz, this]
theorem C152 (c : FuncId → Option (List AV → Heap → Option (AV × Heap))) (hc : c 189 = none) (hc2 : c 152 = none) (a : AV) (l : List Rdg) (ha : slV rdgC a = some l) (g : FuncId) (first capt : List AV) (pb : Rdg → Bool) (h : Heap)
    (hcall : ∀ p : Rdg, p ∈ l → Cl (dX c) g ((first ++ [rdgC.enc p]) ++ capt) h (.ret (.bool (pb p)) h none)) : Cl (dX c) 152 [a, .func (.func g) first capt] h (.ret (.bool (l.any pb)) h none) := by
  refine ClR.cl ?_
  have hcl := C189 c hc a l ha g first capt pb h hcall
  have hout := sl_out ha
  have hb := idxOf_any pb l
  clear ha hcall
  refine ClR.walk (c := _) hc2 Tryz.func152 rfl (by kernel_rfl) rfl (fun e => by cases e) ?_
  simp only [entryEnv, Nat.reduceAdd]
  repeat' (first | (apply WO1.call; exact payR; exact payR; (focus (exact hcl)); simp only [pM, pN, rR, rP]) | (refine ⟨⟨trivial, trivial⟩, ?_⟩) | (refine ⟨⟨rfl, rfl⟩, ?_⟩) | (refine WQ.cons rfl rfl ?_) | (refine WT.cons rfl rfl ?_) | (refine WQ.nil ?_) | (refine WT.nil ?_; simp only [tN, bN, eN, true_and]) | (apply WQ.alloc; exact rfl; exact rfl; exact payR; simp only [pM, pN]) | refine W.seq ?_ | refine W.region ?_ | refine W.block ?_ | refine W.scope ?_ | refine WO.cons ?_ | (refine WO.nil ?_; simp only [tN, bN, eN, true_and]) | (apply WO1.rd; exact payR; exact rfl; simp only [pM, pN, rR, rP]) | (refine WO1.gyes (b := true) rfl rfl ?_ rfl ?_; exact payD) | (refine WO1.gno (b := true) rfl rfl ?_ rfl ?_; exact payD; simp only [pM, pN, rR, rP]) | (refine WO1.gyes (b := false) rfl rfl ?_ rfl ?_; exact payD) | (refine WO1.gno (b := false) rfl rfl ?_ rfl ?_; exact payD; simp only [pM, pN, rR, rP]) | (apply WO1.gsplit; exact rfl; exact rfl; exact payR; refine ⟨fun hh => ?_, fun hh => ?_⟩ <;> try simp only [Bool.not_true, Bool.not_false, pM, pN] at hh ⊢) | (apply WO1.ef; exact rfl; exact payE; simp only [pM, pN, rR, rP]) | (simp only [tP, bP, eP, true_and]) | (refine W.ret ?_; simp only [tR, bR, eR, true_and]) | (refine W.skip ?_; simp only [tN, bN, eN, true_and]) | (refine W.exit ?_; simp only [tX, bS, bO, Nat.reduceBEq, tN, bN]) | (refine W.condT ?_ ?_; exact payD) | (refine W.condF ?_ ?_; exact payD) | (apply W.condB; exact payR; refine ⟨fun hh => ?_, fun hh => ?_⟩))
  all_goals simp only [resV_def (X := dX c) Tryz.func152, Tryz.results152, resultsV, resultV, go_sem, *, Nat.reduceLT, Int.reduceEq, Int.reduceBEq, Int.reduceLE, Int.reduceLT, Nat.reduceAdd, Nat.reduceBEq, Nat.reduceEqDiff, reduceIte, Nat.reduceLeDiff, Nat.reduceMul, Nat.reduceSub, reduceCtorEq, frzRes, dFrz, frzCells, isRet_ret, tupleOf]
  simp [isR, frzRes, dX_frz, dFrz, hb]
def machB (st : List Pt) (cx cy wx wy : Sp) (rs : List Rdg) : Bool :=
  allB st 2 20 && spanB cx.lo cx.hi (w64 (-12)) 12 6 && spanB cy.lo cy.hi (w64 (-12)) 12 6 && spanB wx.lo wx.hi (w64 (-3)) 3 2 && spanB wy.lo wy.hi (w64 (-3)) 3 2 && decide ((rs.length : Int) ≤ 4) && !rs.any fun r => !okRdg r
def sp101 : List AV → Option AV
  | [.agg [sa, .int .i64 cxl, .int .i64 cxh, .int .i64 cyl, .int .i64 cyh, .int .i64 wxl, .int .i64 wxh, .int .i64 wyl, .int .i64 wyh, ra]] => match slV ptC sa, slV rdgC ra with
    | some st, some rs => some (.bool (machB st ⟨cxl, cxh⟩ ⟨cyl, cyh⟩ ⟨wxl, wxh⟩ ⟨wyl, wyh⟩ rs))
    | _, _ => none
  | _ => none
theorem p101 : ∀ args v, sp101 args = some v → v.flat = true := by
  intro args v h
  unfold sp101 at h
  split at h
  · split at h
    · cases h; rfl
    · cases h
  · cases h
set_option maxHeartbeats 1000000 in
theorem F101 : IntrFn Tryz.prog 101 (flatFn sp101) := by
  refine flat_fn (X := dX cQ) cQ_sound p101 ?_
  intro args v h
  unfold sp101 at h
  split at h
  · rename_i sa cxl cxh cyl cyh wxl wxh wyl wyh ra
    split at h
    · rename_i st rs hl hr
      cases h
      have hlen := sl_len hr
      have hout := sl_out hr
      have hout2 := sl_out hl
      have HL := Lib.hid hl
      have hcon : ∀ hp : Heap, Cl (dX cQ) 152 [ra, .func (.func 153) [] []] hp (.ret (.bool (rs.any fun r => !okRdg r)) hp none) := fun hp => C152 cQ rfl rfl ra rs hr 153 [] [] (fun r => !okRdg r) hp (fun p _ => C153 p hp)
      have HC := Lib.hid hcon
      clear hl hr hcon
      refine ClR.walk (c := _) rfl Tryz.func101 rfl (by kernel_rfl) rfl isRet_fail ?_
      simp only [entryEnv, Nat.reduceAdd]
      repeat' (first | (refine ⟨⟨trivial, trivial⟩, ?_⟩) | (refine ⟨⟨rfl, rfl⟩, ?_⟩) | (refine WQ.cons rfl rfl ?_) | (refine WT.cons rfl rfl ?_) | (refine WQ.nil ?_) | (refine WT.nil ?_; simp only [tN, bN, eN, true_and]) | (apply WQ.alloc; exact rfl; exact rfl; exact payR; simp only [pM, pN]) | refine W.seq ?_ | refine W.region ?_ | refine W.block ?_ | refine W.scope ?_ | refine WO.cons ?_ | (refine WO.nil ?_; simp only [tN, bN, eN, true_and]) | (apply WO1.rd; exact payR; exact rfl; simp only [pM, pN, rR, rP]) | (refine WO1.gyes (b := true) rfl rfl ?_ rfl ?_; exact payD) | (refine WO1.gno (b := true) rfl rfl ?_ rfl ?_; exact payD; simp only [pM, pN, rR, rP]) | (refine WO1.gyes (b := false) rfl rfl ?_ rfl ?_; exact payD) | (refine WO1.gno (b := false) rfl rfl ?_ rfl ?_; exact payD; simp only [pM, pN, rR, rP]) | (apply WO1.gsplit; exact rfl; exact rfl; exact payR; refine ⟨fun hh => ?_, fun hh => ?_⟩ <;> try simp only [Bool.not_true, Bool.not_false, pM, pN] at hh ⊢) | (apply WO1.call; exact payR; exact payR; (focus (simp only [List.nil_append, List.append_nil]; first | exact K94 rfl _ _ _ _ HL.out _ | exact K151 rfl _ _ _ _ _ | exact HC.out _)); simp only [pM, pN, rR, rP]) | (apply WO1.ef; exact rfl; exact payE; simp only [pM, pN, rR, rP]) | (simp only [tP, bP, eP, true_and]) | (refine W.ret ?_; simp only [tR, bR, eR, true_and]) | (refine W.skip ?_; simp only [tN, bN, eN, true_and]) | (refine W.exit ?_; simp only [tX, bS, bO, Nat.reduceBEq, tN, bN]) | (refine W.condT ?_ ?_; exact payD) | (refine W.condF ?_ ?_; exact payD) | (apply W.condB; exact payR; refine ⟨fun hh => ?_, fun hh => ?_⟩))
      all_goals simp only [resV_def (X := dX cQ) Tryz.func101, Tryz.results101, resultsV, resultV, go_sem, *, Nat.reduceLT, Int.reduceEq, Int.reduceBEq, Int.reduceLE, Int.reduceLT, Nat.reduceAdd, Nat.reduceBEq, Nat.reduceEqDiff, reduceIte, Nat.reduceLeDiff, Nat.reduceMul, Nat.reduceSub, reduceCtorEq, frzRes, dFrz, frzCells, isRet_ret, tupleOf]
      all_goals simp [machB, *]
    · cases h
  · cases h
theorem slL_pur {α : Type} {c : Cd α} {a : AV} {l : List α} (h : slV c a = some l) : a.pur = true := sl_pur h
theorem K101 {X : Ctx} (hX : X.intr 101 = some (flatFn sp101)) (sa ra : AV) (st : List Pt) (rs : List Rdg) (cx cy wx wy : Sp) (hl : slV ptC sa = some st) (hr : slV rdgC ra = some rs) (h : Heap) :
    Cl X 101 [.agg [sa, .int .i64 cx.lo, .int .i64 cx.hi, .int .i64 cy.lo, .int .i64 cy.hi, .int .i64 wx.lo, .int .i64 wx.hi, .int .i64 wy.lo, .int .i64 wy.hi, ra]] h (.ret (.bool (machB st cx cy wx wy rs)) h none) :=
  Cl.intr hX (by
    have hp : (AV.agg [sa, .int .i64 cx.lo, .int .i64 cx.hi, .int .i64 cy.lo, .int .i64 cy.hi, .int .i64 wx.lo, .int .i64 wx.hi, .int .i64 wy.lo, .int .i64 wy.hi, ra]).pur = true := by simp [AV.pur, AV.purL, sl_pur hl, sl_pur hr]
    simp [flatFn, viewVs, view_pur hp, sp101, hl, hr])
def sp41 : List AV → Option AV
  | [.int .i64 n, .int .i64 f] => some (.bool (inB n f 12))
  | _ => none
theorem F41 : IntrFn Tryz.prog 41 (pureFn sp41) := by
  refine pure_fn (X := dX cQ) cQ_sound (fun a v h => by unfold sp41 at h; split at h <;> cases h; rfl) ?_
  intro args v h
  unfold sp41 at h
  split at h
  · cases h
    refine ClR.walk (c := _) rfl Tryz.func41 rfl (by kernel_rfl) rfl isRet_fail ?_
    simp only [entryEnv, Nat.reduceAdd]
    repeat' (first | (refine ⟨⟨trivial, trivial⟩, ?_⟩) | (refine ⟨⟨rfl, rfl⟩, ?_⟩) | (refine WQ.cons rfl rfl ?_) | (refine WT.cons rfl rfl ?_) | (refine WQ.nil ?_) | (refine WT.nil ?_; simp only [tN, bN, eN, true_and]) | (apply WQ.alloc; exact rfl; exact rfl; exact payR; simp only [pM, pN]) | refine W.seq ?_ | refine W.region ?_ | refine W.block ?_ | refine W.scope ?_ | refine WO.cons ?_ | (refine WO.nil ?_; simp only [tN, bN, eN, true_and]) | (apply WO1.rd; exact payR; exact rfl; simp only [pM, pN, rR, rP]) | (refine WO1.gyes (b := true) rfl rfl ?_ rfl ?_; exact payD) | (refine WO1.gno (b := true) rfl rfl ?_ rfl ?_; exact payD; simp only [pM, pN, rR, rP]) | (refine WO1.gyes (b := false) rfl rfl ?_ rfl ?_; exact payD) | (refine WO1.gno (b := false) rfl rfl ?_ rfl ?_; exact payD; simp only [pM, pN, rR, rP]) | (apply WO1.gsplit; exact rfl; exact rfl; exact payR; refine ⟨fun hh => ?_, fun hh => ?_⟩ <;> try simp only [Bool.not_true, Bool.not_false, pM, pN] at hh ⊢) | (apply WO1.call; exact payR; exact payR; (focus (simp only [List.nil_append, List.append_nil]; first | exact K97 rfl _ _ _ _)); simp only [pM, pN, rR, rP]) | (apply WO1.ef; exact rfl; exact payE; simp only [pM, pN, rR, rP]) | (simp only [tP, bP, eP, true_and]) | (refine W.ret ?_; simp only [tR, bR, eR, true_and]) | (refine W.skip ?_; simp only [tN, bN, eN, true_and]) | (refine W.exit ?_; simp only [tX, bS, bO, Nat.reduceBEq, tN, bN]) | (refine W.condT ?_ ?_; exact payD) | (refine W.condF ?_ ?_; exact payD) | (apply W.condB; exact payR; refine ⟨fun hh => ?_, fun hh => ?_⟩))
    all_goals simp only [resV_def (X := dX cQ) Tryz.func41, Tryz.results41, resultsV, resultV, go_sem, *, Nat.reduceLT, Int.reduceEq, Int.reduceBEq, Int.reduceLE, Int.reduceLT, Nat.reduceAdd, Nat.reduceBEq, Nat.reduceEqDiff, reduceIte, Nat.reduceLeDiff, Nat.reduceMul, Nat.reduceSub, reduceCtorEq, frzRes, dFrz, frzCells, isRet_ret, tupleOf]
  · cases h
theorem K41 {X : Ctx} (hX : X.intr 41 = some (pureFn sp41)) (n f : Int) (h : Heap) : Cl X 41 [.int .i64 n, .int .i64 f] h (.ret (.bool (inB n f 12)) h none) := Cl.intr hX rfl
noncomputable def cR : FuncId → Option (List AV → Heap → Option (AV × Heap))
  | 41 => some (pureFn sp41)
  | f => cQ f
theorem cR_sound : Sound (dX cR) := dX_sound (fun f g h => by
  unfold cR at h
  split at h
  · cases h; exact F41
  · exact cQ_sound.intr f g h)
def okRdgR (p : Rdg) : Bool := inB p.b 0 12 && inB p.x (-80) 80 && inB p.y (-80) 80 && inB p.err 0 4
def machR (st : List Pt) (cx cy wx wy : Sp) (rs : List Rdg) : Bool :=
  rs.all okRdgR && (pointsB st 2 4 20 && (spanB cx.lo cx.hi (-12) 12 6 && spanB cy.lo cy.hi (-12) 12 6) && (spanB wx.lo wx.hi (-3) 3 2 && spanB wy.lo wy.hi (-3) 3 2) && decide ((rs.length : Int) ≤ 4))
theorem machR_no {st : List Pt} {cx cy wx wy : Sp} {rs : List Rdg} {k : Nat} {p : Rdg} (hp : rs[k]? = some p) (h : okRdgR p = false) : machR st cx cy wx wy rs = false := by
  have : rs.all okRdgR = false := by
    rw [Bool.eq_false_iff]
    intro h2
    have := List.all_eq_true.1 h2 p (List.mem_of_getElem? hp)
    rw [h] at this
    cases this
  simp [machR, this]
def sp71 : List AV → Option AV
  | [.agg [sa, .int .i64 cxl, .int .i64 cxh, .int .i64 cyl, .int .i64 cyh, .int .i64 wxl, .int .i64 wxh, .int .i64 wyl, .int .i64 wyh, ra]] => match slV ptC sa, slV rdgC ra with
    | some st, some rs => some (.bool (machR st ⟨cxl, cxh⟩ ⟨cyl, cyh⟩ ⟨wxl, wxh⟩ ⟨wyl, wyh⟩ rs))
    | _, _ => none
  | _ => none
theorem p71 : ∀ args v, sp71 args = some v → v.flat = true := by
  intro args v h
  unfold sp71 at h
  split at h
  · split at h
    · cases h; rfl
    · cases h
  · cases h
set_option maxHeartbeats 2000000 in
theorem F71 : IntrFn Tryz.prog 71 (flatFn sp71) := by
  refine flat_fn (X := dX cR) cR_sound p71 ?_
  intro args v h
  unfold sp71 at h
  split at h
  · rename_i sa cxl cxh cyl cyh wxl wxh wyl wyh ra
    split at h
    · rename_i st rs hl hr
      cases h
      have hlen := sl_len hr
      have hout := sl_out hr
      have hmax := sl_max hr
      have hout2 := sl_out hl
      have HL := Lib.hid hl
      clear hl
      refine ClR.walk (c := _) rfl Tryz.func71 rfl (by kernel_rfl) rfl isRet_fail ?_
      simp only [entryEnv, Nat.reduceAdd]
      repeat' (first | (refine ⟨⟨trivial, trivial⟩, ?_⟩) | (refine ⟨⟨rfl, rfl⟩, ?_⟩) | (refine WQ.cons rfl rfl ?_) | (refine WT.cons rfl rfl ?_) | (refine WQ.nil ?_) | (refine WT.nil ?_; simp only [tN, bN, eN, true_and]) | (apply WQ.alloc; exact rfl; exact rfl; exact payR; simp only [pM, pN]) | refine W.seq ?_ | refine W.region ?_ | refine W.block ?_ | refine W.scope ?_ | refine WO.cons ?_ | (refine WO.nil ?_; simp only [tN, bN, eN, true_and]) | (apply WO1.rd; exact payR; exact rfl; simp only [pM, pN, rR, rP]) | (refine WO1.gyes (b := true) rfl rfl ?_ rfl ?_; exact payD) | (refine WO1.gno (b := true) rfl rfl ?_ rfl ?_; exact payD; simp only [pM, pN, rR, rP]) | (refine WO1.gyes (b := false) rfl rfl ?_ rfl ?_; exact payD) | (refine WO1.gno (b := false) rfl rfl ?_ rfl ?_; exact payD; simp only [pM, pN, rR, rP]) | (apply WO1.gsplit; exact rfl; exact rfl; exact payR; refine ⟨fun hh => ?_, fun hh => ?_⟩ <;> try simp only [Bool.not_true, Bool.not_false, pM, pN] at hh ⊢) | (apply WO1.ef; exact rfl; exact payE; simp only [pM, pN, rR, rP]) | (simp only [tP, bP, eP, true_and]) | (refine W.ret ?_; simp only [tR, bR, eR, true_and]) | (refine W.skip ?_; simp only [tN, bN, eN, true_and]) | (refine W.exit ?_; simp only [tX, bS, bO, Nat.reduceBEq, tN, bN]) | (refine W.condT ?_ ?_; exact payD) | (refine W.condF ?_ ?_; exact payD) | (apply W.condB; exact payR; refine ⟨fun hh => ?_, fun hh => ?_⟩))
      refine W.loopN rs.length (fun k F => ∃ e lm, F = Fr.mk 71 false e lm emptyHp [] none ∧ (rs.take k).all okRdgR = true ∧ lm.get 1 = some (0, [sa, .int .i64 cxl, .int .i64 cxh, .int .i64 cyl, .int .i64 cyh, .int .i64 wxl, .int .i64 wxh, .int .i64 wyl, .int .i64 wyh, ra]) ∧ e.get 1 = some (.lptr 1 0 0) ∧ e.get 3 = some (.int .i64 ↑k) ∧ k ≤ rs.length) ?_ ?_
      · refine ⟨_, _, rfl, ?_, ?_, ?_, ?_, ?_⟩ <;> first | exact payD | simp [go_sem, *, Nat.reduceLT, Int.reduceEq, Int.reduceBEq, Int.reduceLE, Int.reduceLT, Nat.reduceAdd, Nat.reduceBEq, Nat.reduceEqDiff, reduceIte, Nat.reduceLeDiff, Nat.reduceMul, Nat.reduceSub, reduceCtorEq]
      rintro k F ⟨e, lm, rfl, hall, hl1, h1, h3, hk⟩
      have HA := Lib.hid hall
      clear hall
      by_cases hlt : k < rs.length
      · obtain ⟨p, hp⟩ := get_some hlt
        have hix := rdg_idx hr hp
        have hd : decide ((k : Int) < (rs.length : Int)) = true := by simpa using hlt
        have hw := wrap_succ hlt hmax
        have hnx := take_next hp
        have HN := Lib.hid (fun h => machR_no (st := st) (cx := ⟨cxl, cxh⟩) (cy := ⟨cyl, cyh⟩) (wx := ⟨wxl, wxh⟩) (wy := ⟨wyl, wyh⟩) hp h)
        have HX := Lib.hid hnx
        clear hr hp hnx
        repeat' (first | (refine ⟨⟨trivial, trivial⟩, ?_⟩) | (refine ⟨⟨rfl, rfl⟩, ?_⟩) | (refine WQ.cons rfl rfl ?_) | (refine WT.cons rfl rfl ?_) | (refine WQ.nil ?_) | (refine WT.nil ?_; simp only [tN, bN, eN, true_and]) | (apply WQ.alloc; exact rfl; exact rfl; exact payR; simp only [pM, pN]) | refine W.seq ?_ | refine W.region ?_ | refine W.block ?_ | refine W.scope ?_ | refine WO.cons ?_ | (refine WO.nil ?_; simp only [tN, bN, eN, true_and]) | (apply WO1.rd; exact payR; exact rfl; simp only [pM, pN, rR, rP]) | (refine WO1.gyes (b := true) rfl rfl ?_ rfl ?_; exact payD) | (refine WO1.gno (b := true) rfl rfl ?_ rfl ?_; exact payD; simp only [pM, pN, rR, rP]) | (refine WO1.gyes (b := false) rfl rfl ?_ rfl ?_; exact payD) | (refine WO1.gno (b := false) rfl rfl ?_ rfl ?_; exact payD; simp only [pM, pN, rR, rP]) | (apply WO1.gsplit; exact rfl; exact rfl; exact payR; refine ⟨fun hh => ?_, fun hh => ?_⟩ <;> try simp only [Bool.not_true, Bool.not_false, pM, pN] at hh ⊢) | (apply WO1.call; exact payR; exact payR; (focus (simp only [List.nil_append, List.append_nil]; first | exact K41 rfl _ _ _ | exact K97 rfl _ _ _ _)); simp only [pM, pN, rR, rP]) | (apply WO1.ef; exact rfl; exact payE; simp only [pM, pN, rR, rP]) | (simp only [tP, bP, eP, true_and]) | (refine W.ret ?_; simp only [tR, bR, eR, true_and]) | (refine W.skip ?_; simp only [tN, bN, eN, true_and]) | (refine W.exit ?_; simp only [tX, bS, bO, Nat.reduceBEq, tN, bN]) | (refine W.condT ?_ ?_; exact payD) | (refine W.condF ?_ ?_; exact payD) | (apply W.condB; exact payR; refine ⟨fun hh => ?_, fun hh => ?_⟩))
        all_goals (try simp only [Bool.not_eq_false', Bool.not_eq_true'] at *)
        all_goals first
          | (refine ⟨hlt, _, _, rfl, ?_, ?_, ?_, ?_, by omega⟩
             · have h1 := HA.out
               rw [HX.out]
               simp only [List.all_append, h1, List.all_cons, List.all_nil, okRdgR, *, Bool.and_self]
             all_goals exact payD)
          | (simp only [resV_def (X := dX cR) Tryz.func71, Tryz.results71, resultsV, resultV, go_sem, *, Nat.reduceLT, Int.reduceEq, Int.reduceBEq, Int.reduceLE, Int.reduceLT, Nat.reduceAdd, Nat.reduceBEq, Nat.reduceEqDiff, reduceIte, Nat.reduceLeDiff, Nat.reduceMul, Nat.reduceSub, reduceCtorEq, frzRes, dFrz, frzCells, isRet_ret, tupleOf]
             rw [HN.out (by simp [okRdgR, *])])
      · have hd : decide ((k : Int) < (rs.length : Int)) = false := by simpa using hlt
        have hkl : k = rs.length := by omega
        have h2 := HA.out
        rw [hkl, List.take_length] at h2
        have H2 := Lib.hid h2
        clear hr h2 hkl
        repeat' (first | (refine ⟨⟨trivial, trivial⟩, ?_⟩) | (refine ⟨⟨rfl, rfl⟩, ?_⟩) | (refine WQ.cons rfl rfl ?_) | (refine WT.cons rfl rfl ?_) | (refine WQ.nil ?_) | (refine WT.nil ?_; simp only [tN, bN, eN, true_and]) | (apply WQ.alloc; exact rfl; exact rfl; exact payR; simp only [pM, pN]) | refine W.seq ?_ | refine W.region ?_ | refine W.block ?_ | refine W.scope ?_ | refine WO.cons ?_ | (refine WO.nil ?_; simp only [tN, bN, eN, true_and]) | (apply WO1.rd; exact payR; exact rfl; simp only [pM, pN, rR, rP]) | (refine WO1.gyes (b := true) rfl rfl ?_ rfl ?_; exact payD) | (refine WO1.gno (b := true) rfl rfl ?_ rfl ?_; exact payD; simp only [pM, pN, rR, rP]) | (refine WO1.gyes (b := false) rfl rfl ?_ rfl ?_; exact payD) | (refine WO1.gno (b := false) rfl rfl ?_ rfl ?_; exact payD; simp only [pM, pN, rR, rP]) | (apply WO1.gsplit; exact rfl; exact rfl; exact payR; refine ⟨fun hh => ?_, fun hh => ?_⟩ <;> try simp only [Bool.not_true, Bool.not_false, pM, pN] at hh ⊢) | (apply WO1.call; exact payR; exact payR; (focus (simp only [List.nil_append, List.append_nil]; first | exact K135 rfl _ _ _ _ _ _ | exact K28 rfl _ _ _ _ _ HL.out _)); simp only [pM, pN, rR, rP]) | (apply WO1.ef; exact rfl; exact payE; simp only [pM, pN, rR, rP]) | (simp only [tP, bP, eP, true_and]) | (refine W.ret ?_; simp only [tR, bR, eR, true_and]) | (refine W.skip ?_; simp only [tN, bN, eN, true_and]) | (refine W.exit ?_; simp only [tX, bS, bO, Nat.reduceBEq, tN, bN]) | (refine W.condT ?_ ?_; exact payD) | (refine W.condF ?_ ?_; exact payD) | (apply W.condB; exact payR; refine ⟨fun hh => ?_, fun hh => ?_⟩))
        all_goals simp only [resV_def (X := dX cR) Tryz.func71, Tryz.results71, resultsV, resultV, go_sem, *, Nat.reduceLT, Int.reduceEq, Int.reduceBEq, Int.reduceLE, Int.reduceLT, Nat.reduceAdd, Nat.reduceBEq, Nat.reduceEqDiff, reduceIte, Nat.reduceLeDiff, Nat.reduceMul, Nat.reduceSub, reduceCtorEq, frzRes, dFrz, frzCells, isRet_ret, tupleOf]
        all_goals (have h2 := H2.out; simp [machR, *])
    · cases h
  · cases h
theorem K71 {X : Ctx} (hX : X.intr 71 = some (flatFn sp71)) (sa ra : AV) (st : List Pt) (rs : List Rdg) (cx cy wx wy : Sp) (hl : slV ptC sa = some st) (hr : slV rdgC ra = some rs) (h : Heap) :
    Cl X 71 [.agg [sa, .int .i64 cx.lo, .int .i64 cx.hi, .int .i64 cy.lo, .int .i64 cy.hi, .int .i64 wx.lo, .int .i64 wx.hi, .int .i64 wy.lo, .int .i64 wy.hi, ra]] h (.ret (.bool (machR st cx cy wx wy rs)) h none) :=
  Cl.intr hX (by
    have hp : (AV.agg [sa, .int .i64 cx.lo, .int .i64 cx.hi, .int .i64 cy.lo, .int .i64 cy.hi, .int .i64 wx.lo, .int .i64 wx.hi, .int .i64 wy.lo, .int .i64 wy.hi, ra]).pur = true := by simp [AV.pur, AV.purL, sl_pur hl, sl_pur hr]
    simp [flatFn, viewVs, view_pur hp, sp71, hl, hr])
theorem machR_B (st : List Pt) (cx cy wx wy : Sp) (rs : List Rdg) : machR st cx cy wx wy rs = machB st cx cy wx wy rs := by
  have e1 : w64 (-12) = -12 := rfl
  have e2 : w64 (-3) = -3 := rfl
  have e3 : ∀ p, okRdgR p = okRdg p := fun p => by
    unfold okRdgR okRdg okPt
    have : w64 (-80) = -80 := rfl
    rw [this]
    simp only [Bool.and_assoc]
  have e4 : allB st 2 20 = pointsB st 2 4 20 := by
    unfold allB pointsB
    rw [Bool.and_comm]
    congr 1
    rw [List.not_any_eq_all_not]
    congr 1
    funext p
    simp
  have e5 : (!rs.any fun r => !okRdg r) = rs.all okRdgR := by
    rw [List.not_any_eq_all_not]
    congr 1
    funext p
    rw [e3]
    simp
  unfold machR machB
  rw [e1, e2, e4, e5]
  cases rs.all okRdgR <;> cases pointsB st 2 4 20 <;> cases spanB cx.lo cx.hi (-12) 12 6 <;> cases spanB cy.lo cy.hi (-12) 12 6 <;> cases spanB wx.lo wx.hi (-3) 3 2 <;> cases spanB wy.lo wy.hi (-3) 3 2 <;> cases decide ((rs.length : Int) ≤ 4) <;> rfl
end Go.AM
