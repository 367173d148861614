/-
  Texts of the proof: an evaluator of the program's code, its soundness, contracts of functions.
-/
import Derived.Test.YtlhcjccaimmhgaaGreatDoorQAR
import Derived.Test.YtlhcjccaimmhgaaGreatDoorQAQ
import Derived.Test.YtlhcjccaimmhgaaGreatDoorQAO
set_option linter.unusedSectionVars false
set_option linter.unusedVariables false
set_option linter.unusedSimpArgs false
set_option maxRecDepth 100000
namespace Go.AM
open Go Go.Proofs
variable [Keep]
attribute [local irreducible] W WO WO1 WD WQ WT thenQ blockQ endR isRet retK Cl ClR
attribute [local irreducible] isNew roundQ RdR clR boundsS machB boxL suitB
structure MA where
  sa : AV
  ra : AV
  cx : Sp
  cy : Sp
  wx : Sp
  wy : Sp
  ps : sa.pur = true ∧ ra.pur = true
def machC : Cd MA where
  enc m := .agg [m.sa, .int .i64 m.cx.lo, .int .i64 m.cx.hi, .int .i64 m.cy.lo, .int .i64 m.cy.hi, .int .i64 m.wx.lo, .int .i64 m.wx.hi, .int .i64 m.wy.lo, .int .i64 m.wy.hi, m.ra]
  dec a := match a with
    | .agg [sa, .int .i64 a, .int .i64 b, .int .i64 c, .int .i64 d, .int .i64 e, .int .i64 f, .int .i64 g, .int .i64 h, ra] => if p : sa.pur = true ∧ ra.pur = true then some ⟨sa, ra, ⟨a, b⟩, ⟨c, d⟩, ⟨e, f⟩, ⟨g, h⟩, p⟩ else none
    | _ => none
  de m := by simp [m.ps]
  ed a x h := by
    split at h
    · split at h
      · cases h; rfl
      · cases h
    · cases h
  pur m := by simp [AV.pur, AV.purL, m.ps.1, m.ps.2]
def MA.stops (m : MA) : List Pt := (slV ptC m.sa).getD []
def MA.rdgs (m : MA) : List Rdg := (slV rdgC m.ra).getD []
def MA.ok (m : MA) : Bool := (slV ptC m.sa).isSome && (slV rdgC m.ra).isSome
theorem MA.ok_is {m : MA} (h : m.ok = true) : slV ptC m.sa = some m.stops ∧ slV rdgC m.ra = some m.rdgs := by
  unfold MA.ok at h
  simp only [Bool.and_eq_true, Option.isSome_iff_exists] at h
  obtain ⟨⟨a, ha⟩, ⟨b, hb⟩⟩ := h
  simp [MA.stops, MA.rdgs, ha, hb]
def MA.mach (m : MA) : Bool := machB m.stops m.cx m.cy m.wx m.wy m.rdgs
def MA.suit (m : MA) (hs : List Pt) (err : Int) : Bool := suitB m.mach m.stops hs err
def MA.poss (m : MA) : Bool := possB m.cx m.cy m.wx m.wy m.rdgs
def MA.could (m : MA) (hs : List Pt) (err : Int) : List Nat := couldN (fun n => (boxL err m.stops hs).any (canB m.cx m.cy m.wx m.wy m.rdgs n)) 12
theorem mach_idx {a : AV} {l : List MA} (h : slV machC a = some l) {k : Nat} {m : MA} (hp : l[k]? = some m) (hc : m.sa.cells.length = 1 ∧ m.ra.cells.length = 1) (H : Heap) : indexAddrV Tryz.prog H 103 a (.int .i64 ↑k) = some (.vptr [m.sa, .int .i64 m.cx.lo, .int .i64 m.cx.hi, .int .i64 m.cy.lo, .int .i64 m.cy.hi, .int .i64 m.wx.lo, .int .i64 m.wx.hi, .int .i64 m.wy.lo, .int .i64 m.wy.hi, m.ra]) :=
  (slV_is h).1.idx (x := machC.enc m) Tryz.underlying103 ty_lay51 (by simp [hp]) rfl
def whoN (hs : List Pt) (err : Int) (l : List MA) (k : Nat) : List Nat := (List.range k).filter fun i => match l[i]? with | some m => !(m.could hs err).isEmpty | none => false
theorem whoN_succ {hs : List Pt} {err : Int} {l : List MA} {k : Nat} {m : MA} (h : l[k]? = some m) : whoN hs err l (k + 1) = if (m.could hs err).isEmpty then whoN hs err l k else whoN hs err l k ++ [k] := by
  unfold whoN
  rw [List.range_succ, List.filter_append]
  cases q : (m.could hs err).isEmpty <;> simp [h, q]
theorem whoN_len (hs : List Pt) (err : Int) (l : List MA) (k : Nat) : (whoN hs err l k).length ≤ k := by
  unfold whoN
  have := List.length_filter_le (fun i => match l[i]? with | some m => !(m.could hs err).isEmpty | none => false) (List.range k)
  simpa using this
def whoE (hs : List Pt) (err : Int) (l : List MA) : List AV × List AV :=
  if (decide (1 ≤ l.length ∧ l.length ≤ 4) && l.all (fun m => m.suit hs err)) then (if l.all MA.poss then (natsV (whoN hs err l l.length), [.int .i64 0]) else ([], [.int .i64 7])) else ([], [.int .i64 2])
theorem whoE_flat (hs : List Pt) (err : Int) (l : List MA) : (∀ e ∈ (whoE hs err l).1, ∀ x ∈ e.cells, x.flat = true) ∧ ∀ x ∈ (whoE hs err l).2, x.flat = true := by
  unfold whoE
  split
  · split
    · exact ⟨natsV_flat _, by simp [AV.flat]⟩
    · simp [AV.flat]
  · simp [AV.flat]
def sp67 : List AV → Option (List AV × List AV)
  | [la, .agg [ha, .int .i64 err]] => match slV machC la, slV ptC ha with
    | some l, some hs => if l.all MA.ok = true then some (whoE hs err l) else none
    | _, _ => none
  | _ => none
theorem p67 : ∀ args el rest, sp67 args = some (el, rest) → (∀ e ∈ el, ∀ x ∈ e.cells, x.flat = true) ∧ ∀ x ∈ rest, x.flat = true := by
  intro args el rest h
  unfold sp67 at h
  split at h
  · split at h
    · split at h
      · have h := Option.some.inj h
        have e1 := congrArg Prod.fst h
        have e2 := congrArg Prod.snd h
        simp only at e1 e2
        rw [← e1, ← e2]
        exact whoE_flat _ _ _
      · cases h
    · cases h
  · cases h
theorem MA.cells {m : MA} (h : m.ok = true) : m.sa.cells = [m.sa] ∧ m.ra.cells = [m.ra] := by
  obtain ⟨h1, h2⟩ := MA.ok_is h
  exact ⟨(slV_is h1).1.cells, (slV_is h2).1.cells⟩
set_option maxHeartbeats 400000 in
theorem C176 (c : FuncId → Option (List AV → Heap → Option (AV × Heap))) (hc : c 176 = none) (a : AV) (l : List MA) (ha : slV machC a = some l) (hok : l.all MA.ok = true) (g : FuncId) (first capt : List AV) (pb : MA → Bool) (h : Heap)
    (hcall : ∀ p : MA, p ∈ l → Cl (dX c) g ((first ++ [machC.enc p]) ++ capt) h (.ret (.bool (pb p)) h none)) : Cl (dX c) 176 [a, .func (.func g) first capt] h (.ret (.int .i64 (idxOf pb l)) h none) := by
  refine ClR.cl ?_
  have hlen := sl_len ha
  have hout := sl_out ha
  have hmax := sl_max ha
  refine ClR.walk (c := _) hc Tryz.func176 rfl (by kernel_rfl) rfl (fun e => by cases e) ?_
  simp only [entryEnv, Nat.reduceAdd]
  repeat' (first | refine goS ?_ | refine go2 (fun hh => ?_) (fun hh => ?_) | fail)
  refine W.loopN l.length (fun k F => ∃ e, F = Fr.mk 176 false e .nil h [] none ∧ (l.take k).all (fun x => !pb x) = true ∧ e.get 0 = some a ∧ e.get 1 = some (.func (.func g) first capt) ∧ e.get 7 = some (.int .i64 ↑l.length) ∧ e.get 8 = some (.int .i64 ↑k) ∧ k ≤ l.length) ?_ ?_
  · refine ⟨_, rfl, ?_, ?_, ?_, ?_, ?_, ?_⟩ <;> simp [go_sem, *]
  rintro k F ⟨e, rfl, hall, h0, h1, h7, h8, hk⟩
  have HA := Lib.hid hall
  clear hall
  by_cases hlt : k < l.length
  · obtain ⟨p, hp⟩ := get_some hlt
    have hpo := List.all_eq_true.1 hok p (List.mem_of_getElem? hp)
    obtain ⟨c1, c2⟩ := MA.cells hpo
    have hix := mach_idx ha hp ⟨by rw [c1]; rfl, by rw [c2]; rfl⟩
    obtain ⟨q1, q2⟩ := MA.ok_is hpo
    have o1 := sl_out q1
    have o2 := sl_out q2
    obtain ⟨n1, t1⟩ := sl_one q1
    obtain ⟨n2, t2⟩ := sl_one q2
    have hcl := hcall p (List.mem_of_getElem? hp)
    have hd : decide ((k : Int) < (l.length : Int)) = true := by simpa using hlt
    have hw := wrap_succ hlt hmax
    have hnx := take_next hp
    have HI : pb p = true → idxOf pb l = k := idxOf_at HA.out hp
    have HH := Lib.hid HI
    clear ha hcall hp HI hok hpo q1 q2
    simp only [machC] at hcl
    simp only [AV.cells] at c1 c2
    repeat' (first | (apply U6; exact Z1; exact Z1; (focus (exact hcl)); simp only [pM, pN, rR, rP]) | refine go1 ?_ | refine go2 (fun hh => ?_) (fun hh => ?_) | fail)
    all_goals first
      | (refine ⟨hlt, _, rfl, ?_, ?_, ?_, ?_, ?_, by omega⟩
         · have := HA.out
           rw [hnx]; simp_all
         all_goals exact Z2)
      | (simp only [resV_def (X := dX c) Tryz.func176, Tryz.results176, resultsV, resultV, go_sem, *, Nat.reduceLT, Int.reduceEq, Int.reduceBEq, Int.reduceLE, Int.reduceLT, Nat.reduceAdd, Nat.reduceBEq, Nat.reduceEqDiff, reduceIte, Nat.reduceLeDiff, Nat.reduceMul, Nat.reduceSub, reduceCtorEq, frzRes, dFrz, frzCells, isRet_ret, tupleOf]
         have := HH.out hh
         simp [isR, frzRes, dX_frz, dFrz, this])
  · have hd : decide ((k : Int) < (l.length : Int)) = false := by simpa using hlt
    have hkl : k = l.length := by omega
    have h2 := HA.out
    rw [hkl, List.take_length] at h2
    have HI := Lib.hid (idxOf_none h2)
    clear ha hcall h2 hkl hok
    repeat' (first | refine goS ?_ | refine go2 (fun hh => ?_) (fun hh => ?_) | fail)
    all_goals simp only [resV_def (X := dX c) Tryz.func176, Tryz.results176, resultsV, resultV, go_sem, *, Nat.reduceLT, Int.reduceEq, Int.reduceBEq, Int.reduceLE, Int.reduceLT, Nat.reduceAdd, Nat.reduceBEq, Nat.reduceEqDiff, reduceIte, Nat.reduceLeDiff, Nat.reduceMul, Nat.reduceSub, reduceCtorEq, frzRes, dFrz, frzCells, isRet_ret, tupleOf]
    have := HI.out
    simp [isR, frzRes, dX_frz, dFrz, this]
theorem C133 (c : FuncId → Option (List AV → Heap → Option (AV × Heap))) (hc : c 176 = none) (hc2 : c 133 = none) (a : AV) (l : List MA) (ha : slV machC a = some l) (hok : l.all MA.ok = true) (g : FuncId) (first capt : List AV) (pb : MA → Bool) (h : Heap)
    (hcall : ∀ p : MA, p ∈ l → Cl (dX c) g ((first ++ [machC.enc p]) ++ capt) h (.ret (.bool (pb p)) h none)) : Cl (dX c) 133 [a, .func (.func g) first capt] h (.ret (.bool (l.any pb)) h none) := by
  refine ClR.cl ?_
  have hcl := C176 c hc a l ha hok g first capt pb h hcall
  have hout := sl_out ha
  have hb := idxOf_any pb l
  clear ha hcall hok
  refine ClR.walk (c := _) hc2 Tryz.func133 rfl (by kernel_rfl) rfl (fun e => by cases e) ?_
  simp only [entryEnv, Nat.reduceAdd]
  repeat' (first | (apply U6; exact Z1; exact Z1; (focus (exact hcl)); simp only [pM, pN, rR, rP]) | refine go1 ?_ | refine go2 (fun hh => ?_) (fun hh => ?_) | fail)
  all_goals simp only [resV_def (X := dX c) Tryz.func133, Tryz.results133, resultsV, resultV, go_sem, *, Nat.reduceLT, Int.reduceEq, Int.reduceBEq, Int.reduceLE, Int.reduceLT, Nat.reduceAdd, Nat.reduceBEq, Nat.reduceEqDiff, reduceIte, Nat.reduceLeDiff, Nat.reduceMul, Nat.reduceSub, reduceCtorEq, frzRes, dFrz, frzCells, isRet_ret, tupleOf]
  simp [isR, frzRes, dX_frz, dFrz, hb]
noncomputable def cHS : FuncId → Option (List AV → Heap → Option (AV × Heap))
  | 93 => some (pureFn sp93)
  | 112 => some (pureFn sp112)
  | 132 => some (newFn 1 sp132)
  | _ => none
theorem cHS_sound : Sound (dX cHS) := dX_sound (fun f g h => by
  unfold cHS at h
  split at h
  · cases h; exact F93
  · cases h; exact F112
  · cases h; exact F132
  · cases h)
set_option maxHeartbeats 1000000 in
theorem C134 (b : Nat) (m : MA) (hok : m.ok = true) (ha : AV) (hs : List Pt) (err : Int) (hh : slV ptC ha = some hs) (h : Heap) (hb : h.get b = some (.var [ha, .int .i64 err])) :
    Cl (dX cHS) 134 (([] ++ [machC.enc m]) ++ [.ptr b 0]) h (.ret (.bool (!m.suit hs err)) h none) := by
  refine ClR.cl ?_
  obtain ⟨c1, c2⟩ := MA.cells hok
  obtain ⟨q1, q2⟩ := MA.ok_is hok
  have o1 := sl_out q1
  have o2 := sl_out q2
  have o3 := sl_out hh
  obtain ⟨n1, t1⟩ := sl_one q1
  obtain ⟨n2, t2⟩ := sl_one q2
  obtain ⟨n3, t3⟩ := sl_one hh
  have k112 := fun hp => K112 (X := dX cHS) rfl m.sa m.ra ha m.stops hs m.rdgs m.cx m.cy m.wx m.wy err q1 q2 hh hp
  have e : suitB (machB m.stops m.cx m.cy m.wx m.wy m.rdgs) m.stops hs err = m.suit hs err := rfl
  rw [e] at k112
  generalize m.suit hs err = su at *
  obtain ⟨hn, hm⟩ := h
  simp only [hp_get] at hb
  simp only [AV.cells] at c1 c2
  simp only [machC, List.nil_append, List.cons_append]
  clear hh q1 q2 e hok
  refine ClR.walk (c := _) rfl Tryz.func134 rfl (by kernel_rfl) rfl (fun e => by cases e) ?_
  simp only [entryEnv, Nat.reduceAdd]
  repeat' (first | refine goS ?_ | (apply U6; exact Z1; exact Z1; (focus (simp only [List.nil_append, List.append_nil]; first | exact k112 _)); simp only [pM, pN, rR, rP]) | refine go2 (fun hh => ?_) (fun hh => ?_) | fail)
  all_goals simp only [resV_def (X := dX cHS) Tryz.func134, Tryz.results134, resultsV, resultV, go_sem, *, Nat.reduceLT, Int.reduceEq, Int.reduceBEq, Int.reduceLE, Int.reduceLT, Nat.reduceAdd, Nat.reduceBEq, Nat.reduceEqDiff, reduceIte, Nat.reduceLeDiff, Nat.reduceMul, Nat.reduceSub, reduceCtorEq, frzRes, dFrz, frzCells, isRet_ret, tupleOf]
  all_goals simp [isR, frzRes, dX_frz, dFrz]
set_option maxHeartbeats 2000000 in
theorem F67 : IntrFn Tryz.prog 67 (newFn 1 sp67) := by
  refine new_fn (X := dX cHS) cHS_sound p67 ?_
  intro args el rest h
  unfold sp67 at h
  split at h
  · rename_i la ha err
    split at h
    · rename_i l hs hl hh
      split at h
      · rename_i hok
        have h := Option.some.inj h
        have e1 := congrArg Prod.fst h
        have e2 := congrArg Prod.snd h
        simp only at e1 e2
        rw [← e1, ← e2]
        clear h e1 e2
        have o1 := sl_out hl
        have ln := sl_len hl
        have hmax := sl_max hl
        have o3 := sl_out hh
        obtain ⟨n3, t3⟩ := sl_one hh
        obtain ⟨n1, t1⟩ := sl_one hl
        have hin : inB (l.length : Int) 1 4 = decide (1 ≤ l.length ∧ l.length ≤ 4) := by
          unfold inB
          rw [Bool.eq_iff_iff]
          simp
          omega
        have k93 := fun h => K93 (X := dX cHS) rfl (l.length : Int) 1 4 h
        rw [hin] at k93
        have hcl := fun hm => C133 cHS rfl rfl la l hl hok 134 [] [.ptr 0 0] (fun m => !m.suit hs err) ⟨1, hm⟩
        have hcl1 : ∀ hm : Mp Blk, hm.get 0 = some (.var [ha, .int .i64 err]) → Cl (dX cHS) 133 [la, .func (.func 134) [] [.ptr 0 0]] ⟨1, hm⟩ (.ret (.bool (l.any fun m => !m.suit hs err)) ⟨1, hm⟩ none) :=
          fun hm hg => hcl hm (fun p hp => C134 0 p (List.all_eq_true.1 hok p hp) ha hs err hh _ hg)
        have HCL := Lib.hid hcl1
        have HL := Lib.hid hl
        have HH := Lib.hid hh
        have HOK := Lib.hid hok
        have hwe : whoE hs err l = if (decide (1 ≤ l.length ∧ l.length ≤ 4) && !(l.any fun m => !m.suit hs err)) then (if l.all MA.poss then (natsV (whoN hs err l l.length), [.int .i64 0]) else ([], [.int .i64 7])) else ([], [.int .i64 2]) := by
          unfold whoE
          rw [List.any_eq_not_all_not]
          simp
        rw [hwe]
        have HANY := Lib.hid (show ∀ p ∈ l, (l.any fun m => !m.suit hs err) = false → p.suit hs err = true by
          intro p hp hq
          rw [List.any_eq_false] at hq
          simpa using hq p hp)
        generalize (l.any fun m => !m.suit hs err) = an at *
        clear hcl hcl1 hl hh hok hwe hin
        refine ClR.walk (c := _) rfl Tryz.func67 rfl (by kernel_rfl) rfl isNew_fail ?_
        simp only [entryEnv, Nat.reduceAdd, emptyHp]
        have hcase : (decide (1 ≤ l.length ∧ l.length ≤ 4) = false) ∨ (decide (1 ≤ l.length ∧ l.length ≤ 4) = true ∧ an = true) ∨ (decide (1 ≤ l.length ∧ l.length ≤ 4) = true ∧ an = false) := by cases decide (1 ≤ l.length ∧ l.length ≤ 4) <;> cases an <;> simp
        have hcl := HCL.out _ (show (Mp.set .nil 0 (.var [ha, .int .i64 err])).get 0 = _ from rfl)
        rcases hcase with q1 | ⟨q1, q2⟩ | ⟨q1, q2⟩
        · rw [q1] at k93 ⊢
          have k93 := k93
          clear hcl q1
          repeat' (first | refine goS ?_ | (apply U6; exact Z1; exact Z1; (focus (simp only [List.nil_append, List.append_nil]; first | exact k93 _)); simp only [pM, pN, rR, rP]) | refine go2 (fun hh => ?_) (fun hh => ?_) | fail)
          all_goals simp only [resV_def (X := dX cHS) Tryz.func67, Tryz.results67, resultsV, resultV, go_sem, *, Nat.reduceLT, Int.reduceEq, Int.reduceBEq, Int.reduceLE, Int.reduceLT, Nat.reduceAdd, Nat.reduceBEq, Nat.reduceEqDiff, reduceIte, Nat.reduceLeDiff, Nat.reduceMul, Nat.reduceSub, reduceCtorEq, frzRes, dFrz, frzCells, isRet_ret, tupleOf]
          exact isNew_mk Blt.nil
        · rw [q1] at k93 ⊢
          subst q2
          clear q1
          repeat' (first | (apply U6; exact Z1; exact Z1; (focus (exact hcl)); simp only [pM, pN, rR, rP]) | refine go1 ?_ | (apply U6; exact Z1; exact Z1; (focus (simp only [List.nil_append, List.append_nil]; first | exact k93 _)); simp only [pM, pN, rR, rP]) | refine go2 (fun hh => ?_) (fun hh => ?_) | fail)
          all_goals simp only [resV_def (X := dX cHS) Tryz.func67, Tryz.results67, resultsV, resultV, go_sem, *, Nat.reduceLT, Int.reduceEq, Int.reduceBEq, Int.reduceLE, Int.reduceLT, Nat.reduceAdd, Nat.reduceBEq, Nat.reduceEqDiff, reduceIte, Nat.reduceLeDiff, Nat.reduceMul, Nat.reduceSub, reduceCtorEq, frzRes, dFrz, frzCells, isRet_ret, tupleOf]
          exact isNew_mk Blt.nil
        · have hl4 : l.length ≤ 4 := by simp only [decide_eq_true_eq] at q1; exact q1.2
          rw [q1] at k93 ⊢
          subst q2
          clear q1
          repeat' (first | (apply U6; exact Z1; exact Z1; (focus (exact hcl)); simp only [pM, pN, rR, rP]) | refine go1 ?_ | (apply U6; exact Z1; exact Z1; (focus (simp only [List.nil_append, List.append_nil]; first | exact k93 _)); simp only [pM, pN, rR, rP]) | refine go2 (fun hh => ?_) (fun hh => ?_) | fail)
          simp only [Bool.not_false, Bool.and_self, if_true]
          clear hcl k93
          refine W.loopN l.length (fun k F => ∃ e lm hp u, F = Fr.mk 67 false e lm hp [] none ∧ hp.get 0 = some (.var [ha, .int .i64 err]) ∧ 0 < hp.next ∧ Blt hp u 1 (natsV (whoN hs err l k)) ∧ (l.take k).all MA.poss = true ∧ e.get 3 = some (.ptr 0 0) ∧ e.get 6 = some u ∧ e.get 20 = some la ∧ e.get 21 = some (.int .i64 ↑l.length) ∧ e.get 22 = some (.int .i64 ↑k) ∧ k ≤ l.length) ?_ ?_
          · refine ⟨_, _, _, .nilslice, rfl, rfl, by simp only; omega, Blt.nil, by simp, ?_, ?_, ?_, ?_, ?_, ?_⟩ <;> first | exact Z2 | simp [go_sem, *]
          rintro k F ⟨e, lm, ⟨qn, qm⟩, u, rfl, g0, hqn, hbu, hall, h3, h6, h20, h21, h22, hk⟩
          have HALL := Lib.hid hall
          have ou := hbu.out
          have cu := hbu.cells
          have tu := hbu.tup
          simp only [AV.cells] at cu
          simp only [isTuple] at tu
          clear hall
          by_cases hlt : k < l.length
          · obtain ⟨m, hm⟩ := get_some hlt
            have hmem := List.mem_of_getElem? hm
            have hmo := List.all_eq_true.1 HOK.out m hmem
            obtain ⟨c1, c2⟩ := MA.cells hmo
            obtain ⟨q1, q2⟩ := MA.ok_is hmo
            have hix := fun h => mach_idx HL.out hm ⟨by rw [c1]; rfl, by rw [c2]; rfl⟩ h
            have p1 := sl_out q1
            have p2 := sl_out q2
            obtain ⟨n4, t4⟩ := sl_one q1
            obtain ⟨n5, t5⟩ := sl_one q2
            have hd : decide ((k : Int) < (l.length : Int)) = true := by simpa using hlt
            have hw := wrap_succ hlt hmax
            obtain ⟨v, ⟨zn, zm⟩, hc132, hbv, hx⟩ := K132 (X := dX cHS) rfl m.sa m.ra ha m.stops hs m.rdgs m.cx m.cy m.wx m.wy err ⟨qn, qm⟩ (.of q1 _) (.of q2 _) (.of HH.out _) (HANY.out m hmem rfl)
            have ep : possB m.cx m.cy m.wx m.wy m.rdgs = m.poss := rfl
            have ec : couldN (fun n => (boxL err m.stops hs).any (canB m.cx m.cy m.wx m.wy m.rdgs n)) 12 = m.could hs err := rfl
            rw [ep] at hc132 hbv
            rw [ec] at hbv
            have ov := hbv.out
            have cv := hbv.cells
            have tv := hbv.tup
            simp only [AV.cells] at cv c1 c2
            simp only [isTuple] at tv
            have G0 := Lib.hid g0
            have HM := Lib.hid hm
            have HX := Lib.hid hx
            simp only [hp_get] at g0
            cases hp : m.poss with
            | false =>
              rw [hp] at hc132
              have hno : l.all MA.poss = false := by
                rw [Bool.eq_false_iff]
                intro q
                have := List.all_eq_true.1 q m hmem
                rw [hp] at this
                cases this
              have HNO := Lib.hid hno
              clear hno hmem hmo q1 q2 hm hx hbv ep ec hbu hp
              repeat' (first | (apply U6; exact Z1; exact Z1; (focus (exact hc132)); simp only [pM, pN, rR, rP]) | refine go1 ?_ | refine go2 (fun hh => ?_) (fun hh => ?_) | fail)
              all_goals simp only [resV_def (X := dX cHS) Tryz.func67, Tryz.results67, resultsV, resultV, go_sem, *, Nat.reduceLT, Int.reduceEq, Int.reduceBEq, Int.reduceLE, Int.reduceLT, Nat.reduceAdd, Nat.reduceBEq, Nat.reduceEqDiff, reduceIte, Nat.reduceLeDiff, Nat.reduceMul, Nat.reduceSub, reduceCtorEq, frzRes, dFrz, frzCells, isRet_ret, tupleOf]
              rw [HNO.out]
              exact isNew_mk Blt.nil
            | true =>
              rw [hp] at hc132 hbv
              simp only [if_true] at hbv
              have lv := hbv.len
              rw [natsV_len] at lv
              have hbl := hbu.ext hx
              have hal : (l.take (k + 1)).all MA.poss = true := by
                rw [List.take_add_one, HM.out, List.all_append, HALL.out]
                simp [hp]
              have HAL := Lib.hid hal
              have z0 := (hx.2 0 hqn).trans G0.out
              have hzn := Nat.lt_of_lt_of_le hqn hx.1
              have hsucc := whoN_succ (hs := hs) (err := err) hm
              cases hem : (m.could hs err).isEmpty with
              | true =>
                have hd2 : decide (((m.could hs err).length : Int) > 0) = false := by
                  rw [List.isEmpty_iff.1 hem]; rfl
                rw [hem, if_pos rfl] at hsucc
                have HS := Lib.hid hsucc
                have HBL := Lib.hid hbl
                have HZ0 := Lib.hid z0
                have HZN := Lib.hid hzn
                clear hmem hmo q1 q2 hm hx hbv ep ec hbu hp hal hbl z0 hzn hsucc hem
                repeat' (first | (apply U6; exact Z1; exact Z1; (focus (exact hc132)); simp only [pM, pN, rR, rP]) | refine go1 ?_ | refine go2 (fun hh => ?_) (fun hh => ?_) | fail)
                refine ⟨hlt, _, _, _, u, rfl, HZ0.out, HZN.out, ?_, HAL.out, ?_, ?_, ?_, ?_, ?_, by omega⟩
                · rw [HS.out]; exact HBL.out
                all_goals exact Z2
              | false =>
                have hd2 : decide (((m.could hs err).length : Int) > 0) = true := by
                  have : (m.could hs err) ≠ [] := fun q => by rw [q] at hem; cases hem
                  have := List.length_pos_iff.2 this
                  simp only [decide_eq_true_eq]; omega
                rw [hem, if_neg (by simp)] at hsucc
                have hll : (whoN hs err l k).length + (0 + 1) ≤ most := by
                  have := whoN_len hs err l k
                  unfold most; omega
                have HS := Lib.hid hsucc
                have HBL := Lib.hid hbl
                have HZ0 := Lib.hid z0
                have HZN := Lib.hid hzn
                clear hmem hmo q1 q2 hm hx hbv ep ec hbu hp hal z0 hzn hsucc hem
                repeat' (first | (apply U6; exact Z1; exact Z1; (focus (exact hc132)); simp only [pM, pN, rR, rP]) | (apply WO1.appendE (t := 39) (u := 39) (e := 3) (e' := 3) (sz := 1) (tl := []) (hb := hbl); exact Z1; exact rfl; exact Z2; exact Z2; exact Z2; (focus (exact ty_row39)); exact Z1; (focus (intro v hv; simp at hv; subst hv; rfl)); (focus (simp only [natsV_len, List.length_cons, List.length_nil]; exact hll)); (focus (simp)); (intro v2 hp2 hB2 ho2 hK2 hE2; have hc2 := hB2.cells; have ht2 := hB2.tup; simp only [AV.cells] at hc2; simp only [isTuple] at ht2; simp only [pM, pN])) | refine go1 ?_ | refine go2 (fun hh => ?_) (fun hh => ?_) | fail)
                refine ⟨hlt, _, _, hp2, v2, rfl, ?_, Nat.lt_of_lt_of_le HZN.out hK2.1, ?_, HAL.out, ?_, ?_, ?_, ?_, ?_, by omega⟩
                · exact (hK2.2 0 HZN.out (HBL.out.ne_row (fun z r e => by rw [HZ0.out] at e; cases e))).trans HZ0.out
                · rw [HS.out]
                  have e4 : natsV (whoN hs err l k ++ [k]) = natsV (whoN hs err l k) ++ [.int .i64 (k : Int)] := by simp [natsV]
                  rw [e4]; exact hB2
                all_goals exact Z2
          · have hd : decide ((k : Int) < (l.length : Int)) = false := by simpa using hlt
            have hkl : k = l.length := by omega
            have hall := HALL.out
            rw [hkl, List.take_length] at hall
            rw [hkl] at hbu
            have HB := Lib.hid hbu
            have HA2 := Lib.hid hall
            clear hbu hall hlt hk g0 hkl
            repeat' (first | refine goS ?_ | refine go2 (fun hh => ?_) (fun hh => ?_) | fail)
            all_goals simp only [resV_def (X := dX cHS) Tryz.func67, Tryz.results67, resultsV, resultV, go_sem, *, Nat.reduceLT, Int.reduceEq, Int.reduceBEq, Int.reduceLE, Int.reduceLT, Nat.reduceAdd, Nat.reduceBEq, Nat.reduceEqDiff, reduceIte, Nat.reduceLeDiff, Nat.reduceMul, Nat.reduceSub, reduceCtorEq, frzRes, dFrz, frzCells, isRet_ret, tupleOf]
            rw [HA2.out]
            exact isNew_mk HB.out
      · cases h
    · cases h
  · cases h
theorem K67 {X : Ctx} (hX : X.intr 67 = some (newFn 1 sp67)) (la ha : AV) (l : List MA) (hs : List Pt) (err : Int) (h : Heap) (hl : SeeV h machC la l) (hok : l.all MA.ok = true) (hh : SeeV h ptC ha hs) (okA poA : Bool) (w : List Nat)
    (e1 : (decide (1 ≤ l.length ∧ l.length ≤ 4) && l.all (fun m => m.suit hs err)) = okA) (e2 : l.all MA.poss = poA) (e3 : whoN hs err l l.length = w) :
    ∃ v h', Cl X 67 [la, .agg [ha, .int .i64 err]] h (.ret (.tuple [v, .int .i64 (if okA then (if poA then 0 else 7) else 2)]) h' none) ∧ Blt h' v 1 (if okA && poA then natsV w else []) ∧ HExt h h' := by
  obtain ⟨la', v1, s1⟩ := hl
  obtain ⟨ha', v3, s3⟩ := hh
  have hlD : viewD h la = some la' := by
    cases la <;> first | exact v1 | (simp [viewV] at v1; cases v1; cases s1) | skip
    all_goals (unfold viewV at v1; simp only at v1; split at v1 <;> first | (cases v1; cases s1) | cases v1)
  have hv : viewDs h [la, .agg [ha, .int .i64 err]] = some [la', .agg [ha', .int .i64 err]] := by
    simp only [viewDs, hlD, viewD_but v3]
  have hs : sp67 [la', .agg [ha', .int .i64 err]] = some (if okA && poA then natsV w else [], [.int .i64 (if okA then (if poA then 0 else 7) else 2)]) := by
    simp only [sp67, s1, s3, hok, if_true, whoE, e1, e2, e3]
    cases okA <;> cases poA <;> rfl
  exact Cl.new hX hv hs
end Go.AM
set_option linter.unusedSimpArgs false
set_option linter.unusedVariables false
set_option linter.unusedSectionVars false
namespace Go.AM
open Go
variable [Keep]
def hullS (a s : Sp) : Sp := ⟨minV a.lo s.lo, maxV a.hi s.hi⟩
def hullB (a s : Bx) : Bx := ⟨hullS a.x s.x, hullS a.y s.y⟩
def prvStep (f : Bx → Option Bx) (acc : Option Bx) (y : Bx) : Option Bx := match f y with
  | none => acc
  | some s => match acc with
    | none => some s
    | some a => some (hullB a s)
def prvL (f : Bx → Option Bx) (l : List Bx) : Option Bx := l.foldl (prvStep f) none
theorem hull_in {a s : Bx} : (hullB a s).x.lo ≤ s.x.lo ∧ s.x.hi ≤ (hullB a s).x.hi ∧ (hullB a s).y.lo ≤ s.y.lo ∧ s.y.hi ≤ (hullB a s).y.hi := by
  simp only [hullB, hullS, minV_eq, maxV_eq]; omega
theorem hull_out {a s : Bx} : (hullB a s).x.lo ≤ a.x.lo ∧ a.x.hi ≤ (hullB a s).x.hi ∧ (hullB a s).y.lo ≤ a.y.lo ∧ a.y.hi ≤ (hullB a s).y.hi := by
  simp only [hullB, hullS, minV_eq, maxV_eq]; omega
def Around (a s : Bx) : Prop := a.x.lo ≤ s.x.lo ∧ s.x.hi ≤ a.x.hi ∧ a.y.lo ≤ s.y.lo ∧ s.y.hi ≤ a.y.hi
theorem prv_hull (f : Bx → Option Bx) {y s : Bx} (hf : f y = some s) : ∀ (l : List Bx) (acc : Option Bx), (y ∈ l ∨ ∃ a, acc = some a ∧ Around a s) → ∃ a, l.foldl (prvStep f) acc = some a ∧ Around a s := by
  intro l
  induction l with
  | nil =>
    intro acc h
    rcases h with h | h
    · cases h
    · exact h
  | cons z r ih =>
    intro acc h
    refine ih _ ?_
    rcases h with h | ⟨a, rfl, ha⟩
    · rcases List.mem_cons.1 h with rfl | h
      · right
        unfold prvStep
        rw [hf]
        cases acc with
        | none => exact ⟨s, rfl, by unfold Around; omega⟩
        | some a => exact ⟨_, rfl, hull_in⟩
      · exact .inl h
    · right
      unfold prvStep
      cases f z with
      | none => exact ⟨a, rfl, ha⟩
      | some t =>
        refine ⟨_, rfl, ?_⟩
        have := hull_out (a := a) (s := t)
        unfold Around at ha ⊢
        omega
end Go.AM
set_option linter.unusedSimpArgs false
set_option linter.unusedVariables false
set_option linter.unusedSectionVars false
namespace Go.AM
open Go
variable [Keep]
def inS (n : Int) (s : Sp) : Prop := s.lo ≤ n ∧ n ≤ s.hi
theorem inS_inter {n : Int} {a b : Sp} (h1 : inS n a) (h2 : inS n b) : inS n (interS a b) := by
  unfold inS at *
  simp only [interS_lo, interS_hi]
  omega
theorem allS_in (n b : Int) : ∀ (L : List Lim) (s : Sp), (∀ m ∈ L, m.b = b → inS n m.sp) → inS n s → inS n (allS b L s) := by
  intro L
  induction L with
  | nil => intro s _ h; exact h
  | cons m r ih =>
    intro s hL h
    simp only [allS]
    split
    · rename_i hb
      exact ih _ (fun m' h' => hL m' (by simp [h'])) (inS_inter h (hL m (by simp) (by simpa using hb)))
    · exact ih _ (fun m' h' => hL m' (by simp [h'])) h
theorem lim_at {ax : Ax} {l : List Int} (hf : fitsA ax l = true) {k : Nat} : ∀ m ∈ ax.limits, m.b = (k : Int) → inS (l.getD k 0) m.sp := by
  intro m hm hb
  simp only [fitsA, Bool.and_eq_true] at hf
  have := List.all_eq_true.1 hf.2.2 m hm
  simp only [inL, inB, Bool.and_eq_true, decide_eq_true_eq, hb, Int.toNat_natCast] at this
  exact ⟨this.1, this.2⟩
theorem step_at {ax : Ax} {l : List Int} (hf : fitsA ax l = true) (hs : l.all okN = true) {k : Nat} (hk : k < 12) : ax.wear.lo ≤ l.getD (k + 1) 0 - l.getD k 0 ∧ l.getD (k + 1) 0 - l.getD k 0 ≤ ax.wear.hi := by
  simp only [fitsA, Bool.and_eq_true] at hf
  have := List.all_eq_true.1 hf.2.1 k (by simpa using hk)
  have a := num_small hs k
  have b := num_small hs (k + 1)
  have e : w64 (l.getD (k + 1) 0 - l.getD k 0) = l.getD (k + 1) 0 - l.getD k 0 := wrap_small (by omega) (by omega)
  simp only [stepB, inB, e, Bool.and_eq_true, decide_eq_true_eq] at this
  exact ⟨this.1, this.2⟩
theorem on_in {c w : Sp} {L : List Lim} (g : Good c w L) {l : List Int} (hf : fitsA ⟨c, w, L⟩ l = true) (hs : l.all okN = true) : ∀ k : Nat, k ≤ 12 → inS (l.getD k 0) (onS ⟨c, w, L⟩ k) := by
  intro k
  induction k with
  | zero =>
    intro _
    refine allS_in _ _ _ _ (lim_at hf (k := 0)) ?_
    have hf' := hf
    simp only [fitsA, inB, Bool.and_eq_true, decide_eq_true_eq] at hf'
    exact ⟨hf'.1.1, hf'.1.2⟩
  | succ k ih =>
    intro hk
    have h := ih (by omega)
    refine allS_in _ _ _ _ (lim_at hf (k := k + 1)) ?_
    obtain ⟨e1, e2⟩ := nxt_small g (by omega) (by omega) (on_bd g k (by omega))
    have hst := step_at hf hs (show k < 12 by omega)
    simp only [] at hst
    unfold inS at *
    rw [e1, e2]
    omega
def Amid (l : List Int) (out : List Sp) : Prop := out.length = 13 ∧ ∀ j : Nat, j ≤ 12 → inS (l.getD j 0) (out.getD j ⟨0, 0⟩) ∧ -1000 ≤ (out.getD j ⟨0, 0⟩).lo ∧ (out.getD j ⟨0, 0⟩).hi ≤ 1000
theorem back_in {c w : Sp} {L : List Lim} (g : Good c w L) {l : List Int} (hf : fitsA ⟨c, w, L⟩ l = true) (hs : l.all okN = true) : ∀ (n : Nat) (out : List Sp), n ≤ 12 → Amid l out → Amid l (backS ⟨c, w, L⟩ n out) := by
  intro n
  induction n with
  | zero => intro out _ h; exact h
  | succ n ih =>
    intro out hn h
    simp only [backS]
    refine ih _ (by omega) ⟨by simp [h.1], fun j hj => ?_⟩
    have w1 := g.w1
    have w2 := g.w2
    have w3 := g.w3
    have hm := h.2 (n + 1) (by omega)
    have hn1 := num_small hs (n + 1)
    have hst := step_at hf hs (show n < 12 by omega)
    simp only [] at hst
    by_cases hnj : n = j
    · subst hnj
      rw [getD_set_same (by rw [h.1]; omega)]
      have h0 := h.2 n (by omega)
      generalize out.getD (n + 1) ⟨0, 0⟩ = s at *
      generalize out.getD n ⟨0, 0⟩ = t at *
      have hm1 := hm.1
      have h01 := h0.1
      unfold inS at *
      have e1 : (prvS ⟨c, w, L⟩ s).lo = s.lo - w.hi := wrap_small (show -4611686018427387904 ≤ s.lo - w.hi by omega) (show s.lo - w.hi ≤ 4611686018427387904 by omega)
      have e2 : (prvS ⟨c, w, L⟩ s).hi = s.hi - w.lo := wrap_small (show -4611686018427387904 ≤ s.hi - w.lo by omega) (show s.hi - w.lo ≤ 4611686018427387904 by omega)
      simp only [interS_lo, interS_hi, e1, e2]
      omega
    · rw [getD_set_ne hnj]
      exact h.2 j hj
theorem on_list (ax : Ax) {k : Nat} (hk : k < 13) : ((List.range 13).map (onS ax)).getD k ⟨0, 0⟩ = onS ax k := by
  simp [List.getD, hk]
theorem bounds_good {c w : Sp} {L : List Lim} (g : Good c w L) : boundsS ⟨c, w, L⟩ = refS ⟨c, w, L⟩ := by
  have hc1 := g.c1
  have hc2 := g.c2
  have hc3 := g.c3
  have hw2 := g.w2
  have hw1 := g.w1
  have hw3 := g.w3
  refine bounds_ref ⟨c, w, L⟩ (by simp [empS]; omega) (fun k hk he => by
    obtain ⟨e1, e2⟩ := nxt_small g (by omega) (by omega) (on_bd g k (by omega))
    simp only [empS, decide_eq_false_iff_not] at *
    rw [e1, e2]
    omega)
theorem fits_within {c w : Sp} {L : List Lim} (g : Good c w L) {l : List Int} (hf : fitsA ⟨c, w, L⟩ l = true) (hs : l.all okN = true) : ∃ t, boundsS ⟨c, w, L⟩ = some t ∧ t.length = 13 ∧ ∀ j : Nat, j ≤ 12 → inS (l.getD j 0) (t.getD j ⟨0, 0⟩) := by
  have hM : Amid l (backS ⟨c, w, L⟩ 12 ((List.range 13).map (onS ⟨c, w, L⟩))) := by
    refine back_in g hf hs 12 _ (by omega) ⟨by simp, fun j hj => ?_⟩
    rw [on_list _ (by omega)]
    have := on_bd g j (by omega)
    exact ⟨on_in g hf hs j hj, by omega, by omega⟩
  rw [bounds_good g]
  unfold refS
  have hne : (backS ⟨c, w, L⟩ 12 ((List.range 13).map (onS ⟨c, w, L⟩))).any empS = false := by
    rw [List.any_eq_false]
    intro x hx
    obtain ⟨j, hj⟩ := List.mem_iff_getElem?.1 hx
    have hjl : j < 13 := by
      rcases Nat.lt_or_ge j 13 with h | h
      · exact h
      · rw [List.getElem?_eq_none (by rw [hM.1]; exact h)] at hj; cases hj
    have hg : (backS ⟨c, w, L⟩ 12 ((List.range 13).map (onS ⟨c, w, L⟩))).getD j ⟨0, 0⟩ = x := by simp [List.getD, hj]
    have := (hM.2 j (by omega)).1
    rw [hg] at this
    unfold inS at this
    simp only [empS, decide_eq_true_eq]
    omega
  rw [hne]
  exact ⟨_, rfl, hM.1, fun j hj => (hM.2 j hj).1⟩
theorem true_x {st : List Pt} {cx cy wx wy : Sp} {rs : List Rdg} {xs ys : List Int} (h : machB st cx cy wx wy rs = true) (ht : truthB xs ys = true) (hf : fitsM cx cy wx wy rs xs ys = true) : ∃ t, boundsS (ax0 cx wx rs []) = some t ∧ t.length = 13 ∧ ∀ j : Nat, j ≤ 12 → inS (xs.getD j 0) (t.getD j ⟨0, 0⟩) := by
  simp only [fitsM, Bool.and_eq_true] at hf
  have e : ax0 cx wx rs [] = ⟨cx, wx, lims155 rs⟩ := by simp [ax0]
  rw [e]
  exact fits_within (good_x h) hf.1 (truth_of ht).2.2.1
theorem true_y {st : List Pt} {cx cy wx wy : Sp} {rs : List Rdg} {xs ys : List Int} (h : machB st cx cy wx wy rs = true) (ht : truthB xs ys = true) (hf : fitsM cx cy wx wy rs xs ys = true) : ∃ t, boundsS (ax1 cy wy rs []) = some t ∧ t.length = 13 ∧ ∀ j : Nat, j ≤ 12 → inS (ys.getD j 0) (t.getD j ⟨0, 0⟩) := by
  simp only [fitsM, Bool.and_eq_true] at hf
  have e : ax1 cy wy rs [] = ⟨cy, wy, lims156 rs⟩ := by simp [ax1]
  rw [e]
  exact fits_within (good_y h) hf.2 (truth_of ht).2.2.2
end Go.AM
set_option linter.unusedSimpArgs false
set_option linter.unusedVariables false
set_option linter.unusedSectionVars false
namespace Go.AM
open Go
variable [Keep]
attribute [local irreducible] boundsS
theorem lin_add (u : Nat) (p q : Pt) : lin u ⟨p.x + q.x, p.y + q.y⟩ = ⟨(lin u p).x + (lin u q).x, (lin u p).y + (lin u q).y⟩ := by
  obtain ⟨a, b⟩ := p
  obtain ⟨d, e⟩ := q
  match u with
  | 0 => simp only [lin]
  | 1 => simp only [lin, Pt.mk.injEq, true_and, and_true]; omega
  | 2 => simp only [lin, Pt.mk.injEq, true_and, and_true]; omega
  | 3 => simp only [lin, Pt.mk.injEq, true_and, and_true]; omega
  | 4 => simp only [lin, Pt.mk.injEq, true_and, and_true]; omega
  | 5 => simp only [lin, Pt.mk.injEq, true_and, and_true]; omega
  | 6 => simp only [lin, Pt.mk.injEq, true_and, and_true]; omega
  | n + 7 => simp only [lin]
theorem lin_bd (u : Nat) {p : Pt} {m : Int} (h : (-m ≤ p.x ∧ p.x ≤ m) ∧ (-m ≤ p.y ∧ p.y ≤ m)) : (-m ≤ (lin u p).x ∧ (lin u p).x ≤ m) ∧ (-m ≤ (lin u p).y ∧ (lin u p).y ≤ m) := by
  unfold lin
  split <;> (try simp only) <;> omega
theorem turn_lin' {t : Nat} (ht : t < 8) {p : Pt} (hp : (-1000 ≤ p.x ∧ p.x ≤ 1000) ∧ (-1000 ≤ p.y ∧ p.y ≤ 1000)) : turnP (t : Int) p = lin t p := by
  obtain ⟨x, y⟩ := p
  simp only at hp
  have e1 : w64 (-x) = -x := wrap_small (by omega) (by omega)
  have e2 : w64 (-y) = -y := wrap_small (by omega) (by omega)
  have e3 : w64 x = x := wrap_small (by omega) (by omega)
  have e4 : w64 y = y := wrap_small (by omega) (by omega)
  have c0 : w64 0 = 0 := rfl
  have c1 : w64 1 = 1 := rfl
  have c2 : w64 2 = 2 := rfl
  have c3 : w64 3 = 3 := rfl
  rcases lt8 ht with rfl | rfl | rfl | rfl | rfl | rfl | rfl | rfl <;> simp [turnP, lin, iter, quarter, flipX, e1, e2, e3, e4, c0, c1, c2, c3]
theorem ord_mem {n : Nat} {o : List Nat} (h : IsOrd n o) : o ∈ ordsL n n [] := by
  rw [ords_lev]
  cases hf : (lev n n).find? (fun s => s == o) with
  | none =>
    rw [lev_srch] at hf
    have := srch_none n [] hf (by simp) o (by simpa using h)
    simp at this
  | some s =>
    have h1 := List.find?_some hf
    have h2 := List.mem_of_find?_eq_some hf
    simp only [beq_iff_eq] at h1
    rw [← h1]; exact h2
def inBx (a b : Int) (y : Bx) : Prop := inS a y.x ∧ inS b y.y
theorem inBx_ne {a b : Int} {y : Bx} (h : inBx a b y) : empB y = false := by
  unfold inBx inS at h
  simp only [empB, empS, Bool.or_eq_false_iff, decide_eq_false_iff_not]
  omega
theorem fold_in {a b : Int} : ∀ (l : List Bx) (x : Bx), (∀ y ∈ l, inBx a b y) → inBx a b x → inBx a b (l.foldl bxI x) := by
  intro l
  induction l with
  | nil => intro x _ h; exact h
  | cons y r ih => intro x hl h; exact ih _ (fun z hz => hl z (by simp [hz])) ⟨inS_inter h.1 (hl y (by simp)).1, inS_inter h.2 (hl y (by simp)).2⟩
theorem drilled_box {ss hs : List Pt} {err a b : Int} {t : Nat} {o : List Nat} (h20 : ss.all (okPt 20) = true) (h80 : hs.all (okPt 80) = true) (h0 : 0 ≤ err) (h4 : err ≤ 4) (hn : 1 ≤ ss.length) (ht : t < 8) (ho : IsOrd ss.length o)
    (ha : -80 ≤ a ∧ a ≤ 80) (hb : -80 ≤ b ∧ b ≤ 80)
    (hh : ∀ i s, ss[i]? = some s → ∃ e : Pt, ((-err ≤ e.x ∧ e.x ≤ err) ∧ (-err ≤ e.y ∧ e.y ≤ err)) ∧ hs.getD (o.getD i 0) ⟨0, 0⟩ = ⟨(lin t ⟨s.x + a, s.y + b⟩).x + e.x, (lin t ⟨s.x + a, s.y + b⟩).y + e.y⟩) :
    ∃ y ∈ boxL err ss hs, inBx a b y := by
  have hu : after t 0 < 8 := after_lt t 0
  obtain ⟨h1, h2⟩ := boxOn_ref h20 h80 h0 h4 hn hu o
  have hin : inBx a b (refBx err ss hs (after t 0) o ss.length) := by
    rw [refBx_fold]
    refine fold_in _ _ (fun y hy => ?_) ⟨⟨?_, ?_⟩, ⟨?_, ?_⟩⟩
    · obtain ⟨i, hi, rfl⟩ := List.mem_map.1 hy
      have hil : i < ss.length := by simpa using hi
      obtain ⟨s, hs'⟩ := get_some hil
      obtain ⟨e, he, hp⟩ := hh i s hs'
      rw [(now_ref h20 h80 h0 h4 hn hu o i).2]
      have e1 : ss.getD i ⟨0, 0⟩ = s := by simp [List.getD, hs']
      have hok : okPt 80 (hs.getD (o.getD i 0) ⟨0, 0⟩) = true := getD_ok h20 h80 h0 h4 hn h80 (by decide)
      have h20s : okPt 20 s = true := List.all_eq_true.1 h20 s (List.mem_of_getElem? hs')
      rw [e1, (nowB_bd h20s (turn_ok hu hok) h0 h4).2, turn_lin hu hok, hp, lin_add _ _ e, lin_after ht (show 0 < 8 by omega)]
      have hb := lin_bd (after t 0) he
      have e2 : lin 0 ⟨s.x + a, s.y + b⟩ = ⟨s.x + a, s.y + b⟩ := rfl
      rw [e2]
      unfold inBx inS
      simp only
      omega
    all_goals simp only [wideB, wideS]; omega
  refine ⟨refBx err ss hs (after t 0) o ss.length, ?_, hin⟩
  refine List.mem_flatMap.2 ⟨after t 0, List.mem_range.2 hu, List.mem_filterMap.2 ⟨o, ord_mem ho, ?_⟩⟩
  rw [h1, inBx_ne hin]
  rfl
def heldAt (cx cy wx wy : Sp) (rs : List Rdg) (at_ blank : Nat) (y : Bx) : Option Bx := match boundsS (ax0 cx wx rs [⟨at_, y.x, y.y⟩]), boundsS (ax1 cy wy rs [⟨at_, y.x, y.y⟩]) with
  | some a, some b => some ⟨a.getD blank ⟨0, 0⟩, b.getD blank ⟨0, 0⟩⟩
  | _, _ => none
theorem heldAt_can (cx cy wx wy : Sp) (rs : List Rdg) (at_ blank : Nat) (y : Bx) : (heldAt cx cy wx wy rs at_ blank y).isSome = canB cx cy wx wy rs at_ y := by
  unfold heldAt canB
  cases boundsS (ax0 cx wx rs [⟨at_, y.x, y.y⟩]) <;> cases boundsS (ax1 cy wy rs [⟨at_, y.x, y.y⟩]) <;> rfl
theorem fits_more {c w : Sp} {L : List Lim} {l : List Int} {m : Lim} (h : fitsA ⟨c, w, L⟩ l = true) (hm : inL l m = true) : fitsA ⟨c, w, L ++ [m]⟩ l = true := by
  simp only [fitsA, Bool.and_eq_true, List.all_append, List.all_cons, List.all_nil, Bool.and_true] at h ⊢
  exact ⟨h.1, h.2.1, h.2.2, hm⟩
theorem inL_in {l : List Int} {n : Nat} {s : Sp} (h : inS (l.getD n 0) s) : inL l ⟨n, s.lo, s.hi⟩ = true := by
  unfold inS at h
  simp only [inL, inB, Int.toNat_natCast, Bool.and_eq_true, decide_eq_true_eq]
  omega
section
variable {ss : List Pt} {cx cy wx wy : Sp} {rs : List Rdg} {xs ys : List Int} (h : machB ss cx cy wx wy rs = true) (ht : truthB xs ys = true) (hf : fitsM cx cy wx wy rs xs ys = true)
include h ht hf
theorem held_true {n : Nat} {y : Bx} (hn : n ≤ 12) (hb : BdB y) (hy : inBx (xs.getD n 0) (ys.getD n 0) y) (k : Nat) (hk : k ≤ 12) : ∃ s, heldAt cx cy wx wy rs n k y = some s ∧ inBx (xs.getD k 0) (ys.getD k 0) s := by
  obtain ⟨_, _, n1, n2⟩ := truth_of ht
  simp only [fitsM, Bool.and_eq_true] at hf
  have hm : ∀ m ∈ [(⟨n, y.x, y.y⟩ : Held)], HeldOk m := fun m hm => by
    simp only [List.mem_singleton] at hm
    subst hm
    exact held_box hn hb
  have f1 : fitsA ⟨cx, wx, (ax0 cx wx rs [⟨n, y.x, y.y⟩]).limits⟩ xs = true := fits_more hf.1 (inL_in hy.1)
  have f2 : fitsA ⟨cy, wy, (ax1 cy wy rs [⟨n, y.x, y.y⟩]).limits⟩ ys = true := fits_more hf.2 (inL_in hy.2)
  obtain ⟨a, a1, _, a2⟩ := fits_within (good_xh h hm) f1 n1
  obtain ⟨b, b1, _, b2⟩ := fits_within (good_yh h hm) f2 n2
  have a1 : boundsS (ax0 cx wx rs [⟨n, y.x, y.y⟩]) = some a := a1
  have b1 : boundsS (ax1 cy wy rs [⟨n, y.x, y.y⟩]) = some b := b1
  refine ⟨⟨a.getD k ⟨0, 0⟩, b.getD k ⟨0, 0⟩⟩, ?_, a2 k hk, b2 k hk⟩
  simp only [heldAt, a1, b1]
theorem found_true {hs : List Pt} {err : Int} {t n : Nat} {o : List Nat} (h20 : ss.all (okPt 20) = true) (h80 : hs.all (okPt 80) = true) (h0 : 0 ≤ err) (h4 : err ≤ 4) (hn1 : 1 ≤ ss.length) (ht8 : t < 8) (ho : IsOrd ss.length o) (hn : n ≤ 12)
    (hh : ∀ i s, ss[i]? = some s → ∃ e : Pt, ((-err ≤ e.x ∧ e.x ≤ err) ∧ (-err ≤ e.y ∧ e.y ≤ err)) ∧ hs.getD (o.getD i 0) ⟨0, 0⟩ = ⟨(lin t ⟨s.x + xs.getD n 0, s.y + ys.getD n 0⟩).x + e.x, (lin t ⟨s.x + xs.getD n 0, s.y + ys.getD n 0⟩).y + e.y⟩)
    (k : Nat) (hk : k ≤ 12) : (boxL err ss hs).any (canB cx cy wx wy rs n) = true ∧ ∃ s, prvL (heldAt cx cy wx wy rs n k) (boxL err ss hs) = some s ∧ inBx (xs.getD k 0) (ys.getD k 0) s := by
  obtain ⟨_, _, n1, n2⟩ := truth_of ht
  obtain ⟨y, hy, hin⟩ := drilled_box h20 h80 h0 h4 hn1 ht8 ho (num_small n1 n) (num_small n2 n) hh
  have hbd := (boxL_bd h20 h80 h0 h4 hn1 y hy).1
  obtain ⟨s, hs1, hs2⟩ := held_true h ht hf hn hbd hin k hk
  refine ⟨List.any_eq_true.2 ⟨y, hy, ?_⟩, ?_⟩
  · rw [← heldAt_can cx cy wx wy rs n k, hs1]; rfl
  · obtain ⟨a, ha, hr⟩ := prv_hull (heldAt cx cy wx wy rs n k) hs1 (boxL err ss hs) none (.inl hy)
    refine ⟨a, ha, ?_⟩
    unfold Around at hr
    unfold inBx inS at hs2 ⊢
    omega
end
end Go.AM
set_option linter.unusedSectionVars false
set_option linter.unusedVariables false
set_option linter.unusedSimpArgs false
set_option maxRecDepth 100000
namespace Go.AM
open Go Go.Proofs
variable [Keep]
attribute [local irreducible] W WO WO1 WD WQ WT thenQ blockQ endR isRet retK Cl ClR
attribute [local irreducible] roundQ RdR clR boundsS machB boxL suitB
theorem ia147l_0 (H : Heap) (s : Tmp) (g off : Nat) : indexAddrV Tryz.prog H 147 (.lptr s g off) (.int .i64 0) = some (.lptr s g off) := by
  simp only [indexAddrV, Tryz.underlying147, ty_lay146]; rfl
theorem ia147l_1 (H : Heap) (s : Tmp) (g off : Nat) : indexAddrV Tryz.prog H 147 (.lptr s g off) (.int .i64 1) = some (.lptr s g (off + 1)) := by
  simp only [indexAddrV, Tryz.underlying147, ty_lay146]; rfl
theorem WO1.gen {X : Ctx} {ops : Array Oper} {o : Oper} {f : FuncId} {r : Bool} {e : Mp AV} {lm : Mp (Nat × List AV)} {hp : Heap} {df : List (AV × List AV)} {up : Option (AV × Bool)} {K P : AV → Fr → Prop} (Q : Mp AV → Mp (Nat × List AV) → Heap → Prop) (h : Q e lm hp)
    (k : ∀ e lm hp, Q e lm hp → WO1 X ops o (Fr.mk f r e lm hp df up) K P) : WO1 X ops o (Fr.mk f r e lm hp df up) K P := k e lm hp h
def bx4 (s : Option Bx) : List AV := let b := s.getD ⟨⟨0, 0⟩, ⟨0, 0⟩⟩; [.int .i64 b.x.lo, .int .i64 b.x.hi, .int .i64 b.y.lo, .int .i64 b.y.hi]
def prvI (s : Option Bx) (h : Heap) : Prop := 5 < h.next ∧ h.get 4 = some (.var (bx4 s)) ∧ h.get 5 = some (.var [.bool s.isSome])
def prvO (_ : Heap) (id : Nat) : Prop := id = 4 ∨ id = 5
theorem prv_ok : OwnOk prvI prvO := by
  refine ⟨fun s h h' i hn hg => ?_, fun s h id i ho => ?_⟩
  · obtain ⟨h1, h2, h3⟩ := i
    exact ⟨⟨by omega, (hg 4 (.inl rfl)).trans h2, (hg 5 (.inr rfl)).trans h3⟩, fun id ho => ho⟩
  · have := i.1
    rcases ho with rfl | rfl <;> omega
theorem foldS_true {α σ : Type} (f : σ → α → σ) : ∀ (l : List α) (s : σ), foldS (fun y s => (f s y, true)) l s = (l.foldl f s, true) := by
  intro l
  induction l with
  | nil => intro s; rfl
  | cons a r ih => intro s; simp only [foldS, if_true, List.foldl_cons]; exact ih _
theorem stR_go2 {σ : Type} {I D : σ → Heap → Prop} {own : Heap → Nat → Prop} {ex : Nat → Prop} {h h' : Heap} {x : σ × Bool} {s : σ} (e : x = (s, true)) (q : I s h' ∧ Rel own h h') : stR I D own ex h x (.ret (.bool true) h' none) := stR_go e q.1 q.2
def prvV (ok : Bool) (s : Option Bx) : AV := if ok then (match s with | some b => .tuple [spC.enc b.x, spC.enc b.y, .int .i64 0] | none => .tuple [.agg [.int .i64 0, .int .i64 0], .agg [.int .i64 0, .int .i64 0], .int .i64 7]) else .tuple [.agg [.int .i64 0, .int .i64 0], .agg [.int .i64 0, .int .i64 0], .int .i64 2]
theorem prvV_flat (ok : Bool) (s : Option Bx) : (prvV ok s).flat = true := by cases ok <;> cases s <;> rfl
def sp55 : List AV → Option AV
  | [.agg [sa, .int .i64 cxl, .int .i64 cxh, .int .i64 cyl, .int .i64 cyh, .int .i64 wxl, .int .i64 wxh, .int .i64 wyl, .int .i64 wyh, ra], .agg [ha, .int .i64 err], .int .i64 at_, .int .i64 blank] => match slV ptC sa, slV rdgC ra, slV ptC ha with
    | some ss, some rs, some hs => some (prvV (suitB (machB ss ⟨cxl, cxh⟩ ⟨cyl, cyh⟩ ⟨wxl, wxh⟩ ⟨wyl, wyh⟩ rs) ss hs err && inB at_ 1 12 && inB blank 0 12) (prvL (heldAt ⟨cxl, cxh⟩ ⟨cyl, cyh⟩ ⟨wxl, wxh⟩ ⟨wyl, wyh⟩ rs at_.toNat blank.toNat) (boxL err ss hs)))
    | _, _, _ => none
  | _ => none
theorem p55 : ∀ args v, sp55 args = some v → v.flat = true := by
  intro args v h
  unfold sp55 at h
  split at h
  · split at h
    · have h := Option.some.inj h
      subst h
      exact prvV_flat _ _
    · cases h
  · cases h
noncomputable def cHV : FuncId → Option (List AV → Heap → Option (AV × Heap))
  | 93 => some (pureFn sp93)
  | 96 => some (pureFn sp96)
  | 103 => some (onHeap h103)
  | 112 => some (pureFn sp112)
  | 116 => some (flatFn sp116)
  | 164 => some (flatFn sp164)
  | _ => none
theorem cHV_sound : Sound (dX cHV) := dX_sound (fun f g h => by
  unfold cHV at h
  split at h
  · cases h; exact F93
  · cases h; exact F96
  · cases h; exact H103
  · cases h; exact F112
  · cases h; exact F116
  · cases h; exact F164
  · cases h)
theorem kn_held {cx cy wx wy : Sp} {rs : List Rdg} {n j : Nat} {y : Bx} {s : Bx} (hj : j ≤ 12) (h : heldAt cx cy wx wy rs n j y = some s) : ∃ a b : List Sp, knV (ax0 cx wx rs [⟨n, y.x, y.y⟩]) (ax1 cy wy rs [⟨n, y.x, y.y⟩]) = .tuple [.agg [.vslice (a.map spC.enc), .vslice (b.map spC.enc)], .bool true] ∧ a[j]? = some s.x ∧ b[j]? = some s.y := by
  unfold heldAt at h
  split at h
  · rename_i a b ha hb
    have h := Option.some.inj h
    subst h
    have la := boundsS_len ha
    have lb := boundsS_len hb
    have nn : ∀ l : List Sp, l.length = 13 → slN (l.map spC.enc) = .vslice (l.map spC.enc) := by
      intro l hl
      cases l with
      | nil => simp at hl
      | cons x r => rfl
    refine ⟨a, b, ?_, ?_, ?_⟩
    · rw [knV_def, ha, hb, ← nn a la, ← nn b lb]; rfl
    · simp [List.getD, List.getElem?_eq_getElem (show j < a.length by omega)]
    · simp [List.getD, List.getElem?_eq_getElem (show j < b.length by omega)]
  · cases h
theorem kn_un {cx cy wx wy : Sp} {rs : List Rdg} {n j : Nat} {y : Bx} (h : heldAt cx cy wx wy rs n j y = none) : knV (ax0 cx wx rs [⟨n, y.x, y.y⟩]) (ax1 cy wy rs [⟨n, y.x, y.y⟩]) = .tuple [.agg [.nilslice, .nilslice], .bool false] := by
  refine kn_no ?_
  have := heldAt_can cx cy wx wy rs n j y
  rw [h] at this
  exact this.symm
set_option maxHeartbeats 8000000 in
theorem R55 : ∀ args v, sp55 args = some v → ClR (dX cHV) 55 args emptyHp (isRet v) := by
  intro args v h
  unfold sp55 at h
  split at h
  · rename_i sa cxl cxh cyl cyh wxl wxh wyl wyh ra ha err at_ blank
    split at h
    · rename_i ss rs hs hl hr hh
      have h := Option.some.inj h
      subst h
      have o1 := sl_out hh
      have o2 := sl_out hl
      have o3 := sl_out hr
      obtain ⟨one1, t1⟩ := sl_one hh
      obtain ⟨one2, t2⟩ := sl_one hl
      obtain ⟨one3, t3⟩ := sl_one hr
      have c1 : ha.cells = [ha] := (slV_is hh).1.cells
      have c2 : sa.cells = [sa] := (slV_is hl).1.cells
      have c3 : ra.cells = [ra] := (slV_is hr).1.cells
      simp only [AV.cells] at c1 c2 c3
      simp only [isTuple] at t1 t2 t3
      have k112 := fun hp => K112 (X := dX cHV) rfl sa ra ha ss hs rs ⟨cxl, cxh⟩ ⟨cyl, cyh⟩ ⟨wxl, wxh⟩ ⟨wyl, wyh⟩ err hl hr hh hp
      have hq : suitB (machB ss ⟨cxl, cxh⟩ ⟨cyl, cyh⟩ ⟨wxl, wxh⟩ ⟨wyl, wyh⟩ rs) ss hs err = true → hs.length = ss.length ∧ 2 ≤ ss.length ∧ ss.length ≤ 4 ∧ rs.length ≤ 4 := fun q => (suit_small q).2.2
      have HQ := Lib.hid hq
      have h102 := fun n m => C102 cHV rfl sa ra ⟨cxl, cxh⟩ ⟨cyl, cyh⟩ ⟨wxl, wxh⟩ ⟨wyl, wyh⟩ (slV_is hl).1.frz1 (slV_is hr).1.frz1 n m
      have h113 := fun pn pm => C113 cHV rfl sa ha err ss hs hl hh pn pm
      have H102 := Lib.hid h102
      have HC113 := Lib.hid h113
      have HL := Lib.hid hl
      have HH := Lib.hid hh
      have HR := Lib.hid hr
      generalize hsu : suitB (machB ss ⟨cxl, cxh⟩ ⟨cyl, cyh⟩ ⟨wxl, wxh⟩ ⟨wyl, wyh⟩ rs) ss hs err = su at *
      clear hq h102 h113 hl hh hr hsu
      refine ClR.walk (c := _) rfl Tryz.func55 rfl (by kernel_rfl) rfl isRet_fail ?_
      simp only [entryEnv, Nat.reduceAdd, emptyHp]
      have hcase : (su = false) ∨ (su = true ∧ inB at_ 1 12 = false) ∨ (su = true ∧ inB at_ 1 12 = true ∧ inB blank 0 12 = false) ∨ (su = true ∧ inB at_ 1 12 = true ∧ inB blank 0 12 = true) := by
        cases su <;> cases inB at_ 1 12 <;> cases inB blank 0 12 <;> simp
      rcases hcase with q1 | ⟨q1, q2⟩ | ⟨q1, q2, q3⟩ | ⟨q1, q2, q3⟩
      · subst q1
        simp only [prvV, Bool.false_and, Bool.false_eq_true, if_false]
        repeat' (first | refine goS ?_ | (apply U6; exact Z1; exact Z1; (focus (simp only [List.nil_append, List.append_nil]; first | exact K93 rfl _ _ _ _ | exact k112 _)); simp only [pM, pN, rR, rP]) | refine go2 (fun hh => ?_) (fun hh => ?_) | fail)
        all_goals simp only [resV_def (X := dX cHV) Tryz.func55, Tryz.results55, resultsV, resultV, go_sem, *, Nat.reduceLT, Int.reduceEq, Int.reduceBEq, Int.reduceLE, Int.reduceLT, Nat.reduceAdd, Nat.reduceBEq, Nat.reduceEqDiff, reduceIte, Nat.reduceLeDiff, Nat.reduceMul, Nat.reduceSub, reduceCtorEq, frzRes, dFrz, frzCells, isRet_ret, tupleOf]
      · subst q1
        simp only [prvV, q2, Bool.and_false, Bool.false_and, Bool.false_eq_true, if_false]
        repeat' (first | refine goS ?_ | (apply U6; exact Z1; exact Z1; (focus (simp only [List.nil_append, List.append_nil]; first | exact K93 rfl _ _ _ _ | exact k112 _)); simp only [pM, pN, rR, rP]) | refine go2 (fun hh => ?_) (fun hh => ?_) | fail)
        all_goals simp only [resV_def (X := dX cHV) Tryz.func55, Tryz.results55, resultsV, resultV, go_sem, *, Nat.reduceLT, Int.reduceEq, Int.reduceBEq, Int.reduceLE, Int.reduceLT, Nat.reduceAdd, Nat.reduceBEq, Nat.reduceEqDiff, reduceIte, Nat.reduceLeDiff, Nat.reduceMul, Nat.reduceSub, reduceCtorEq, frzRes, dFrz, frzCells, isRet_ret, tupleOf]
      · subst q1
        simp only [prvV, q2, q3, Bool.and_false, Bool.false_eq_true, if_false]
        repeat' (first | refine goS ?_ | (apply U6; exact Z1; exact Z1; (focus (simp only [List.nil_append, List.append_nil]; first | exact K93 rfl _ _ _ _ | exact k112 _)); simp only [pM, pN, rR, rP]) | refine go2 (fun hh => ?_) (fun hh => ?_) | fail)
        all_goals simp only [resV_def (X := dX cHV) Tryz.func55, Tryz.results55, resultsV, resultV, go_sem, *, Nat.reduceLT, Int.reduceEq, Int.reduceBEq, Int.reduceLE, Int.reduceLT, Nat.reduceAdd, Nat.reduceBEq, Nat.reduceEqDiff, reduceIte, Nat.reduceLeDiff, Nat.reduceMul, Nat.reduceSub, reduceCtorEq, frzRes, dFrz, frzCells, isRet_ret, tupleOf]
      · subst q1
        obtain ⟨hsl, hn2, hn4, hr4⟩ := HQ.out rfl
        simp only [prvV, q2, q3, Bool.and_self, if_true]
        obtain ⟨n, rfl, hn⟩ : ∃ n : Nat, at_ = n ∧ n ≤ 12 := by
          simp only [inB, Bool.and_eq_true, decide_eq_true_eq] at q2
          exact ⟨at_.toNat, by omega, by omega⟩
        obtain ⟨j, rfl, hj⟩ : ∃ j : Nat, blank = j ∧ j ≤ 12 := by
          simp only [inB, Bool.and_eq_true, decide_eq_true_eq] at q3
          exact ⟨blank.toNat, by omega, by omega⟩
        simp only [Int.toNat_natCast]
        have hy : ∀ (y : Bx) (hp : Heap) (mv : AV), mv.one = true → Cl (dX cHV) 103 [.agg [sa, .int .i64 cxl, .int .i64 cxh, .int .i64 cyl, .int .i64 cyh, .int .i64 wxl, .int .i64 wxh, .int .i64 wyl, .int .i64 wyh, ra, mv], .vslice [.agg [.int .i64 n, .int .i64 y.x.lo, .int .i64 y.x.hi, .int .i64 y.y.lo, .int .i64 y.y.hi]]] hp (.ret (knV (ax0 ⟨cxl, cxh⟩ ⟨wxl, wxh⟩ rs [⟨n, y.x, y.y⟩]) (ax1 ⟨cyl, cyh⟩ ⟨wyl, wyh⟩ rs [⟨n, y.x, y.y⟩])) hp none) :=
          fun y hp mv hmv => K103y (X := dX cHV) rfl sa ra mv ⟨cxl, cxh⟩ ⟨cyl, cyh⟩ ⟨wxl, wxh⟩ ⟨wyl, wyh⟩ rs HR.out one2 hmv (by omega) n y hp
        have HHY := Lib.hid hy
        generalize hres : prvL (heldAt ⟨cxl, cxh⟩ ⟨cyl, cyh⟩ ⟨wxl, wxh⟩ ⟨wyl, wyh⟩ rs n j) (boxL err ss hs) = res
        have HRES := Lib.hid hres
        have HSL := Lib.hid hsl
        have hn1 : 1 ≤ ss.length := by omega
        have hn8 : ss.length ≤ 8 := by omega
        clear hy hres hsl hr4 hn2 hn4 HQ
        repeat' (first | (refine W.label ?_; simp only [tN, bN, eN, true_and]) | refine go1 ?_ | (apply U6; exact Z1; exact Z1; (focus (simp only [List.nil_append, List.append_nil]; first | exact K93 rfl _ _ _ _ | exact k112 _ | exact H102.out _ _)); simp only [pM, pN, rR, rP]) | refine go2 (fun hh => ?_) (fun hh => ?_) | fail)
        refine WO1.gen (fun e lm hp => prvI none hp ∧ hp.get 0 = some (.var [.int .i64 ↑n]) ∧ hp.get 1 = some (.var [.int .i64 ↑j]) ∧ hp.get 3 = some (.var [sa, .int .i64 cxl, .int .i64 cxh, .int .i64 cyl, .int .i64 cyh, .int .i64 wxl, .int .i64 wxh, .int .i64 wyl, .int .i64 wyh, ra, .map 2]) ∧
          lm.get 8 = some (0, [.int .i64 0, .int .i64 0]) ∧ lm.get 9 = some (0, [.int .i64 0, .int .i64 0]) ∧ e.get 6 = some (.ptr 0 0) ∧ e.get 7 = some (.ptr 1 0) ∧ e.get 8 = some (.lptr 8 0 0) ∧ e.get 9 = some (.lptr 9 0 0) ∧ e.get 11 = some (.ptr 3 0) ∧ e.get 12 = some (.ptr 4 0) ∧ e.get 13 = some (.ptr 5 0) ∧ e.get 38 = some sa ∧ e.get 39 = some (.agg [ha, .int .i64 err])) ?_ ?_
        · refine ⟨⟨?_, ?_, ?_⟩, ?_, ?_, ?_, ?_, ?_, ?_, ?_, ?_, ?_, ?_, ?_, ?_, ?_, ?_⟩ <;> first | (simp only [bx4, go_sem, *, Nat.reduceLT, Int.reduceEq, Int.reduceBEq, Int.reduceLE, Int.reduceLT, Nat.reduceAdd, Nat.reduceBEq, Nat.reduceEqDiff, reduceIte, Nat.reduceLeDiff, Nat.reduceMul, Nat.reduceSub, reduceCtorEq]; done) | simp [bx4, hp_get, go_sem, *, Nat.reduceLT, Int.reduceEq, Int.reduceBEq, Int.reduceLE, Int.reduceLT, Nat.reduceAdd, Nat.reduceBEq, Nat.reduceEqDiff, reduceIte, Nat.reduceLeDiff, Nat.reduceMul, Nat.reduceSub, reduceCtorEq]
        rintro e lm ⟨qn, qm⟩ ⟨hi0, g0, g1, g3, l8, l9, h6, h7, h8, h9, h11, h12, h13, h38, h39⟩
        have hqn : 5 < qn := hi0.1
        have okc : OwnOk prvI prvO := prv_ok
        have no0 : ¬ prvO ⟨qn, qm⟩ 0 := by rintro (q | q) <;> cases q
        have no1 : ¬ prvO ⟨qn, qm⟩ 1 := by rintro (q | q) <;> cases q
        have no3 : ¬ prvO ⟨qn, qm⟩ 3 := by rintro (q | q) <;> cases q
        have G0 := Lib.hid g0
        have G1 := Lib.hid g1
        have G3 := Lib.hid g3
        have HI0 := Lib.hid hi0
        clear hi0 g0 g1 g3
        repeat' (first | (refine W.label ?_; simp only [tN, bN, eN, true_and]) | refine go1 ?_ | (apply U6; exact Z1; exact Z1; (focus (simp only [List.nil_append, List.append_nil]; first | exact HC113.out _ _)); simp only [pM, pN, rR, rP]) | refine go2 (fun hh => ?_) (fun hh => ?_) | fail)
        have X2 : ∀ blk, HExt ⟨qn, qm⟩ (Heap.new ⟨qn + 1 + 1, (qm.set qn (.var [sa])).set (qn + 1) (.var [ha, .int .i64 err])⟩ blk) := fun blk => by
          refine ⟨by simp only [Heap.new]; omega, fun id hid => ?_⟩
          simp only at hid
          rw [Heap.get_new, if_neg (by simp only; omega), hget_set, if_neg (by omega), hget_set, if_neg (by omega)]
          rfl
        have I2 := fun blk => (okc.ext _ _ _ HI0.out (X2 blk)).1
        have R2 := fun blk => okc.rel HI0.out (X2 blk)
        have F2 : ∀ blk id, qn ≤ id → ¬ prvO (Heap.new ⟨qn + 1 + 1, (qm.set qn (.var [sa])).set (qn + 1) (.var [ha, .int .i64 err])⟩ blk) id := fun blk id hid ho => by
          rcases ho with rfl | rfl <;> omega
        have N2 : ∀ blk, (Heap.new ⟨qn + 1 + 1, (qm.set qn (.var [sa])).set (qn + 1) (.var [ha, .int .i64 err])⟩ blk).next = qn + 1 + 1 + 1 := fun _ => rfl
        have GA : ∀ blk, (Heap.new ⟨qn + 1 + 1, (qm.set qn (.var [sa])).set (qn + 1) (.var [ha, .int .i64 err])⟩ blk).get qn = some (.var [sa]) := fun blk => by
          rw [Heap.get_new, if_neg (by simp only; omega), hget_set, if_neg (by omega), hget_set, if_pos rfl]
        have GB : ∀ blk, (Heap.new ⟨qn + 1 + 1, (qm.set qn (.var [sa])).set (qn + 1) (.var [ha, .int .i64 err])⟩ blk).get (qn + 1) = some (.var [ha, .int .i64 err]) := fun blk => by
          rw [Heap.get_new, if_neg (by simp only; omega), hget_set, if_pos rfl]
        have GL : ∀ blk, (Heap.new ⟨qn + 1 + 1, (qm.set qn (.var [sa])).set (qn + 1) (.var [ha, .int .i64 err])⟩ blk).get (qn + 1 + 1) = some blk := fun blk => by
          rw [Heap.get_new, if_pos rfl]
        apply W.rangeEnds (R := stU prvI (fun _ _ => False) prvO (fun id => id = qn + 1 + 1) _ (foldS (fun y s => (prvStep (heldAt ⟨cxl, cxh⟩ ⟨cyl, cyh⟩ ⟨wxl, wxh⟩ ⟨wyl, wyh⟩ rs n j) s y, true)) (boxL err ss hs) none))
        · exact Z1
        · refine G163 prvI (fun _ _ => False) prvO okc (fun y s => (prvStep (heldAt ⟨cxl, cxh⟩ ⟨cyl, cyh⟩ ⟨wxl, wxh⟩ ⟨wyl, wyh⟩ rs n j) s y, true)) cHV rfl rfl rfl rfl rfl rfl rfl rfl (qn + 1 + 1) qn (qn + 1) sa ha err ss hs HL.out HH.out HSL.out hn1 hn8 _ none
            (GA _) (GB _) (by rw [N2]; omega) (by rw [N2]; omega) (by rw [N2]; omega) (F2 _ _ (by omega)) (F2 _ _ (by omega)) (I2 _) (fun _ _ _ _ _ _ _ _ _ _ _ h => h.elim) ?_
          intro s y h1' i3 kx
          have kL := kx.2 (qn + 1 + 1) (by rw [N2]; omega) (F2 _ _ (by omega))
          have hL := kL.1.trans (GL _)
          have fL := kL.2
          have lL1 : qn + 1 + 1 < h1'.next := Nat.lt_of_lt_of_le (by rw [N2]; omega) kx.1
          have rel1 := (R2 _).trans kx
          have w0 := (rel1.2 0 (by simp only; omega) no0).1.trans G0.out
          have w1 := (rel1.2 1 (by simp only; omega) no1).1.trans G1.out
          have w3 := (rel1.2 3 (by simp only; omega) no3).1.trans G3.out
          obtain ⟨er, hE, hL⟩ : ∃ er, er = _ ∧ h1'.get (qn + 1 + 1) = some (.loop 55 er _ _ _ .ready none) := ⟨_, rfl, hL⟩
          have r6 : er.get 6 = some (.ptr 0 0) := by rw [hE, Mp.get_map]; simp [go_sem, *, noBox]
          have r7 : er.get 7 = some (.ptr 1 0) := by rw [hE, Mp.get_map]; simp [go_sem, *, noBox]
          have r11 : er.get 11 = some (.ptr 3 0) := by rw [hE, Mp.get_map]; simp [go_sem, *, noBox]
          have r12 : er.get 12 = some (.ptr 4 0) := by rw [hE, Mp.get_map]; simp [go_sem, *, noBox]
          have r13 : er.get 13 = some (.ptr 5 0) := by rw [hE, Mp.get_map]; simp [go_sem, *, noBox]
          have HHL := Lib.hid hL
          have HI3 := Lib.hid i3
          have HFL := Lib.hid fL
          refine round_ok' hL rfl ?_
          clear hE hL kL fL rel1 i3 kx X2 I2 R2 F2 N2 GA GB GL h6 h7 h8 h9 h11 h12 h13 h38 h39 l8 l9
          simp only [bxC]
          repeat' (first | refine goS ?_ | refine go2 (fun hh => ?_) (fun hh => ?_) | fail)
          rintro ⟨zn, zm⟩ hzn hzg hzL
          have q0 := (hzg 0 (by omega)).trans w0
          have q1 := (hzg 1 (by omega)).trans w1
          have q3 := (hzg 3 (by omega)).trans w3
          have bi := rnd_in okc HI3.out hzn hzg HFL.out
          have bg : ∀ s4 h', _ → Rel prvO ⟨zn, zm⟩ h' → _ := fun s4 h' => back_go okc (s4 := s4) (h' := h') HI3.out hzn hzg HHL.out HFL.out lL1
          have g4 := bi.1.2.1
          have g5 := bi.1.2.2
          have hz5 : 5 < zn := bi.1.1
          have HBI := Lib.hid bi
          have HBG := Lib.hid bg
          have HZL := Lib.hid hzL
          simp only [hp_get] at q0 q1 q3 g4 g5
          have hy := fun hp mv hmv => HHY.out y hp mv hmv
          clear hzn hzg hzL w0 w1 w3 bi bg
          cases hcan : heldAt ⟨cxl, cxh⟩ ⟨cyl, cyh⟩ ⟨wxl, wxh⟩ ⟨wyl, wyh⟩ rs n j y with
          | none =>
            rw [kn_un hcan] at hy
            have HY := Lib.hid hy
            have HCAN := Lib.hid hcan
            clear hy hcan
            repeat' (first | refine goS ?_ | (apply U6; exact Z1; exact Z1; (focus (simp only [List.nil_append, List.append_nil]; first | exact HY.out _ _ rfl)); simp only [pM, pN, rR, rP]) | refine go2 (fun hh => ?_) (fun hh => ?_) | fail)
            rw [roundQ_norm]
            simp only [endV, HZL.out]
            have := HBG.out s _ HBI.out.1 (Rel.refl _ _)
            exact stR_go (by simp [prvStep, HCAN.out]) this.1 this.2
          | some p =>
            obtain ⟨a, b, e1, hpa, hpb⟩ := kn_held hj hcan
            rw [e1] at hy
            have HY := Lib.hid hy
            have HCAN := Lib.hid hcan
            have hi1 := sp_idx hpa
            have hi2 := sp_idx hpb
            generalize a.map spC.enc = la at *
            generalize b.map spC.enc = lb at *
            have hw0 : IntKind.i64.wrap (0 + 1) = 1 := by decide
            have hw1 : IntKind.i64.wrap (1 + 1) = 2 := by decide
            have hia := ia147l_0
            have hib := ia147l_1
            have hic := ia169p_0
            have hid := ia169p_1
            clear hy hcan e1 hpa hpb
            cases s with
            | none =>
              simp only [bx4, Option.getD_none, Option.isSome_none] at g4 g5
              repeat' (first | (refine W.unroll ?_) | (apply Z7 (o := ⟨some 18, .alloc 48, 0, _, _, none⟩); exact rfl; exact rfl; exact Z1; simp only [pM, pN]) | (apply W.drawQ (id := 13) (l1 := [6, 0, 1, 2, 3, 4, 5]) (l2 := [7]); kernel_rfl; kernel_rfl; kernel_rfl; exact Z4) | (apply W.drawQ (id := 15) (l1 := [0, 1, 2, 3, 4, 5, 6, 7, 8, 9, 10, 11, 12, 13, 14]) (l2 := [15]); kernel_rfl; kernel_rfl; kernel_rfl; exact Z4) | refine go1 ?_ | (apply U6; exact Z1; exact Z1; (focus (simp only [List.nil_append, List.append_nil]; first | exact HY.out _ _ rfl)); simp only [pM, pN, rR, rP]) | refine go2 (fun hh => ?_) (fun hh => ?_) | fail)
              rw [roundQ_norm]
              have kL := HZL.out
              simp only [hp_get] at kL
              have d4 : ¬ 4 = qn + 1 + 1 := by omega
              have d5 : ¬ 5 = qn + 1 + 1 := by omega
              simp only [endV, hp_get, Mp.get_set, d4, d5, if_false, kL]
              refine stR_go2 (s := some p) (by simp [prvStep, HCAN.out]) (HBG.out _ _ ⟨?_, ?_, ?_⟩ ⟨Nat.le_refl _, fun id hid ho => ⟨?_, ho⟩⟩)
              · simp only; omega
              · simp [hp_get, Mp.get_set, bx4]
              · simp [hp_get, Mp.get_set]
              · have n4 : ¬ 4 = id := fun e => ho (.inl e.symm)
                have n5 : ¬ 5 = id := fun e => ho (.inr e.symm)
                simp only [hp_get, Mp.get_set, n4, n5, if_false]
            | some acc =>
              simp only [bx4, Option.getD_some, Option.isSome_some] at g4 g5
              repeat' (first | (refine W.unroll ?_) | (apply Z7 (o := ⟨some 18, .alloc 48, 0, _, _, none⟩); exact rfl; exact rfl; exact Z1; simp only [pM, pN]) | (apply W.drawQ (id := 13) (l1 := [6, 0, 1, 2, 3, 4, 5]) (l2 := [7]); kernel_rfl; kernel_rfl; kernel_rfl; exact Z4) | (apply W.drawQ (id := 15) (l1 := [0, 1, 2, 3, 4, 5, 6, 7, 8, 9, 10, 11, 12, 13, 14]) (l2 := [15]); kernel_rfl; kernel_rfl; kernel_rfl; exact Z4) | refine go1 ?_ | (apply U6; exact Z1; exact Z1; (focus (simp only [List.nil_append, List.append_nil]; first | exact HY.out _ _ rfl)); simp only [pM, pN, rR, rP]) | refine go2 (fun hh => ?_) (fun hh => ?_) | fail)
              rw [roundQ_norm]
              have kL := HZL.out
              simp only [hp_get] at kL
              have d4 : ¬ 4 = qn + 1 + 1 := by omega
              have d5 : ¬ 5 = qn + 1 + 1 := by omega
              simp only [endV, hp_get, Mp.get_set, d4, d5, if_false, kL]
              refine stR_go2 (s := some (hullB acc p)) (by simp [prvStep, HCAN.out]) (HBG.out _ _ ⟨?_, ?_, ?_⟩ ⟨Nat.le_refl _, fun id hid ho => ⟨?_, ho⟩⟩)
              · simp only; omega
              · simp [hp_get, Mp.get_set, bx4, hullB, hullS]
              · simp [hp_get, Mp.get_set]
              · have n4 : ¬ 4 = id := fun e => ho (.inl e.symm)
                have n5 : ¬ 5 = id := fun e => ho (.inr e.symm)
                simp only [hp_get, Mp.get_set, n4, n5, if_false]
        · intro r hcl hR
          rcases stU_or hR with ⟨s4, h', ex, rfl, i4, kr⟩ | ⟨s4, h', ex, rfl, d4, ke⟩
          · have kL := kr.2 (qn + 1 + 1) (by rw [N2]; omega) (F2 _ _ (by omega))
            have hL := kL.1.trans (GL _)
            have hfin := fun bl => fin_go okc (bl := bl) (h0 := ⟨qn, qm⟩) (L1 := qn + 1 + 1) (by simp only; omega) ((R2 _).trans kr) i4 kL.2
            refine W.rangeNorm rfl ?_ hcl hL (fun e => by cases e) ?_
            · first | exact Z2 | exact Z1
            clear hcl hL
            generalize hput : Heap.put h' _ _ = hz
            have hf : prvI s4 hz ∧ Rel prvO ⟨qn, qm⟩ hz := by rw [← hput]; exact hfin _
            have hs4 : res = s4 := by
              rw [foldS_true] at ex
              rw [← HRES.out]
              exact congrArg Prod.fst ex
            rw [hs4]
            obtain ⟨zn, zm⟩ := hz
            have g4 := hf.1.2.1
            have g5 := hf.1.2.2
            simp only [hp_get] at g4 g5
            have hic := ia169p_0
            have hid := ia169p_1
            clear hput hfin hf kL kr ex i4 hR X2 I2 R2 F2 N2 GA GB GL hs4
            simp only [bN, tN]
            cases s4 with
            | none =>
              simp only [bx4, Option.getD_none, Option.isSome_none] at g4 g5
              repeat' (first | (refine W.label ?_; simp only [tN, bN, eN, true_and]) | refine go1 ?_ | refine go2 (fun hh => ?_) (fun hh => ?_) | fail)
              all_goals simp only [resV_def (X := dX cHV) Tryz.func55, Tryz.results55, resultsV, resultV, go_sem, *, Nat.reduceLT, Int.reduceEq, Int.reduceBEq, Int.reduceLE, Int.reduceLT, Nat.reduceAdd, Nat.reduceBEq, Nat.reduceEqDiff, reduceIte, Nat.reduceLeDiff, Nat.reduceMul, Nat.reduceSub, reduceCtorEq, frzRes, dFrz, frzCells, isRet_ret, tupleOf]
            | some b =>
              simp only [bx4, Option.getD_some, Option.isSome_some] at g4 g5
              repeat' (first | (refine W.label ?_; simp only [tN, bN, eN, true_and]) | (apply W.draw (id := 21) (lc := [0, 1, 2, 3, 4, 5, 6]) (hot := [(2, 4), (3, 4)]); kernel_rfl; kernel_rfl; kernel_rfl; exact Z4) | (refine WD.cons rfl rfl ?_) | (refine WD.nil ⟨?_, ?_⟩; rotate_left; simp only [tN, bN, eN, true_and]) | (refine calmR rfl rfl rfl rfl rfl ?_ ?_; (focus (first | exact Z2 | exact Z1))) | (refine calmE rfl rfl rfl rfl rfl ?_ ?_; (focus (first | exact Z2 | exact Z1))) | (with_reducible refine calmEnd) | refine go1 ?_ | refine go2 (fun hh => ?_) (fun hh => ?_) | fail)
              all_goals simp only [resV_def (X := dX cHV) Tryz.func55, Tryz.results55, resultsV, resultV, go_sem, *, Nat.reduceLT, Int.reduceEq, Int.reduceBEq, Int.reduceLE, Int.reduceLT, Nat.reduceAdd, Nat.reduceBEq, Nat.reduceEqDiff, reduceIte, Nat.reduceLeDiff, Nat.reduceMul, Nat.reduceSub, reduceCtorEq, frzRes, dFrz, frzCells, isRet_ret, tupleOf]
              all_goals simp [spC]
          · exact d4.elim
    · cases h
  · cases h
theorem F55D : IntrFn Tryz.prog 55 (flatFnD sp55) := flatD_fn (X := dX cHV) cHV_sound p55 R55
end Go.AM
set_option linter.unusedSectionVars false
set_option linter.unusedVariables false
set_option linter.unusedSimpArgs false
set_option maxRecDepth 100000
namespace Go.AM
open Go Go.Proofs
variable [Keep]
attribute [local irreducible] W WO WO1 WD WQ WT thenQ blockQ endR isRet retK Cl ClR
attribute [local irreducible] roundQ RdR clR boundsS machB boxL suitB MA.could MA.poss MA.suit MA.mach
section
variable {X : Ctx} {ops : Array Oper} {K P : AV → Fr → Prop} {F : Fr} {d : Option Tmp} {op : Op} {T : TypeId} {p : String} {af : Array Edge} {j : Nat} {want : Bool} {o : Oper} {t : Tmp}
end
theorem K53b {X : Ctx} (hX : X.intr 53 = some (flatFn sp53)) {a b : AV} {l : List Nat} {h : Heap} (hb : Blt h a 1 (natsV l)) (hl : l.length ≤ maxL) (he : b = slN (natsV l)) : Cl X 53 [a, b] h (.ret (.bool true) h none) := by
  subst he
  have h1 : natsV l = (l.map fun k : Nat => (k : Int)).map intC.enc := by simp [natsV, intC]
  have v1 := hb.view (natsV_pur l)
  have v2 := (SeeV.of (slV_slN (c := intC) (l := l.map fun k : Nat => (k : Int)) (by simpa using hl)) h)
  obtain ⟨b', q1, q2⟩ := v2
  have q3 := slV_slN (c := intC) (l := l.map fun k : Nat => (k : Int)) (by simpa using hl)
  rw [← h1] at q1 q3
  have e : b' = slN (natsV l) := by
    have hp : (slN (natsV l)).pur = true := slN_pur (natsV_pur _)
    rw [view_pur hp] at q1
    exact (Option.some.inj q1).symm
  subst e
  exact Cl.intr hX (by simp [flatFn, viewVs, v1, q1, sp53, q3])
end Go.AM
set_option linter.unusedSectionVars false
set_option linter.unusedVariables false
set_option linter.unusedSimpArgs false
set_option maxRecDepth 100000
namespace Go.AM
open Go Go.Proofs
variable [Keep]
attribute [local irreducible] W WO WO1 WD WQ WT thenQ blockQ endR isRet retK Cl ClR
attribute [local irreducible] boundsS machB boxL suitB prvL
theorem K55 {X : Ctx} (hX : X.intr 55 = some (flatFnD sp55)) (sa ra ha : AV) (ss hs : List Pt) (rs : List Rdg) (cx cy wx wy : Sp) (err at_ blank : Int) (h : Heap) (hl : SeeV h ptC sa ss) (hr : SeeV h rdgC ra rs) (hh : SeeV h ptC ha hs) :
    Cl X 55 [.agg [sa, .int .i64 cx.lo, .int .i64 cx.hi, .int .i64 cy.lo, .int .i64 cy.hi, .int .i64 wx.lo, .int .i64 wx.hi, .int .i64 wy.lo, .int .i64 wy.hi, ra], .agg [ha, .int .i64 err], .int .i64 at_, .int .i64 blank] h (.ret (prvV (suitB (machB ss cx cy wx wy rs) ss hs err && inB at_ 1 12 && inB blank 0 12) (prvL (heldAt cx cy wx wy rs at_.toNat blank.toNat) (boxL err ss hs))) h none) := by
  obtain ⟨sa', v1, s1⟩ := hl
  obtain ⟨ra', v2, s2⟩ := hr
  obtain ⟨ha', v3, s3⟩ := hh
  have e : ∀ n, viewD h (.int .i64 n) = some (.int .i64 n) := fun n => rfl
  exact Cl.intr hX (by simp only [flatFnD, viewDs, viewD_mach v1 v2, viewD_but v3, e, sp55, s1, s2, s3])
end Go.AM
set_option linter.unusedSectionVars false
set_option linter.unusedVariables false
set_option linter.unusedSimpArgs false
set_option maxRecDepth 100000
namespace Go.AM
open Go Go.Proofs
variable [Keep]
attribute [local irreducible] W WO WO1 WD WQ WT thenQ blockQ endR isRet retK Cl ClR
attribute [local irreducible] roundQ RdR clR boundsS machB boxL suitB fitsM truthB orderB prvL
def hasB (l : List Int) (n : Int) : Bool := (l.take 20).any fun x => x == n
def sp75 : List AV → Option AV
  | [la, .int .i64 n] => (slV intC la).map fun l => .bool (hasB l n)
  | _ => none
theorem p75 : ∀ args v, sp75 args = some v → v.flat = true := by
  intro args v h
  unfold sp75 at h
  split at h
  · simp only [Option.map_eq_some_iff] at h; obtain ⟨l, _, rfl⟩ := h; rfl
  · cases h
set_option maxHeartbeats 1000000 in
theorem F75 : IntrFn Tryz.prog 75 (flatFn sp75) := by
  refine flat_fn (X := dX i0) i0_sound p75 ?_
  intro args v h
  unfold sp75 at h
  split at h
  · rename_i la n
    simp only [Option.map_eq_some_iff] at h
    obtain ⟨l, hl, rfl⟩ := h
    have o1 := sl_out hl
    have ln := sl_len hl
    have hmax := sl_max hl
    have HL := Lib.hid hl
    have HB := Lib.hid (show hasB l n = (l.take 20).any (fun x => x == n) from rfl)
    generalize hasB l n = res at *
    clear hl
    refine ClR.walk (c := _) rfl Tryz.func75 rfl (by kernel_rfl) rfl isRet_fail ?_
    simp only [entryEnv, Nat.reduceAdd, emptyHp]
    repeat' (first | refine goS ?_ | refine go2 (fun hh => ?_) (fun hh => ?_) | fail)
    refine W.loopN l.length (fun i F => ∃ e, F = Fr.mk 75 false e .nil ⟨0, .nil⟩ [] none ∧ (l.take i).any (fun x => x == n) = false ∧ i ≤ 20 ∧ e.get 0 = some la ∧ e.get 1 = some (.int .i64 n) ∧ e.get 5 = some (.int .i64 ↑i) ∧ i ≤ l.length) ?_ ?_
    · refine ⟨_, rfl, ?_, ?_, ?_, ?_, ?_, ?_⟩ <;> first | exact Z2 | simp [go_sem, *]
    rintro i F ⟨e, rfl, hall, hi20, h0, h1, h5, hi⟩
    have HA := Lib.hid hall
    clear hall
    by_cases hil : i < l.length
    · have hd : decide ((i : Int) < (l.length : Int)) = true := by simpa using hil
      by_cases h20 : i < 20
      · have hd2 : decide ((i : Int) < 20) = true := by simp; omega
        obtain ⟨x, hx⟩ := get_some hil
        have hix := fun H => isSl.idx (P := Tryz.prog) (hp := H) (slV_is HL.out).1 (t := 39) (e := 3) (ag := false) (m := 1) (k := i) (x := .int .i64 x) Tryz.underlying39 ty_lay3 (by simp [hx, intC]) rfl
        simp only [AV.cells] at hix
        have hw := wrap_succ (m := l.length) hil hmax
        have hnx : (l.take (i + 1)).any (fun x => x == n) = (x == n) := by rw [take_next hx, List.any_append, HA.out]; simp
        have HN := Lib.hid hnx
        have HX := Lib.hid hx
        clear hx hnx
        cases hq : (x == n) with
        | true =>
          have hres : res = true := by
            rw [HB.out, List.any_eq_true]
            refine ⟨x, ?_, hq⟩
            rw [List.mem_take_iff_getElem]
            have := HX.out
            obtain ⟨hx1, hx2⟩ := List.getElem?_eq_some_iff.1 this
            exact ⟨i, by omega, hx2⟩
          subst hres
          clear hil h20
          repeat' (first | refine goS ?_ | refine go2 (fun hh => ?_) (fun hh => ?_) | fail)
          all_goals simp only [resV_def (X := dX i0) Tryz.func75, Tryz.results75, resultsV, resultV, go_sem, *, Nat.reduceLT, Int.reduceEq, Int.reduceBEq, Int.reduceLE, Int.reduceLT, Nat.reduceAdd, Nat.reduceBEq, Nat.reduceEqDiff, reduceIte, Nat.reduceLeDiff, Nat.reduceMul, Nat.reduceSub, reduceCtorEq, frzRes, dFrz, frzCells, isRet_ret, tupleOf]
        | false =>
          rw [hq] at HN
          repeat' (first | refine goS ?_ | refine go2 (fun hh => ?_) (fun hh => ?_) | fail)
          refine ⟨hil, _, rfl, HN.out, by omega, ?_, ?_, ?_, by omega⟩
          all_goals exact Z2
      · have hd2 : decide ((i : Int) < 20) = false := by simp; omega
        have hres : res = false := by rw [HB.out, show 20 = i by omega]; exact HA.out
        subst hres
        clear hil h20
        repeat' (first | refine goS ?_ | refine go2 (fun hh => ?_) (fun hh => ?_) | fail)
        all_goals simp only [resV_def (X := dX i0) Tryz.func75, Tryz.results75, resultsV, resultV, go_sem, *, Nat.reduceLT, Int.reduceEq, Int.reduceBEq, Int.reduceLE, Int.reduceLT, Nat.reduceAdd, Nat.reduceBEq, Nat.reduceEqDiff, reduceIte, Nat.reduceLeDiff, Nat.reduceMul, Nat.reduceSub, reduceCtorEq, frzRes, dFrz, frzCells, isRet_ret, tupleOf]
    · have hd : decide ((i : Int) < (l.length : Int)) = false := by simpa using hil
      have hres : res = false := by
        rw [HB.out, List.take_of_length_le (by omega)]
        have := HA.out
        rw [show i = l.length by omega, List.take_length] at this
        exact this
      subst hres
      clear hil
      repeat' (first | refine goS ?_ | refine go2 (fun hh => ?_) (fun hh => ?_) | fail)
      all_goals simp only [resV_def (X := dX i0) Tryz.func75, Tryz.results75, resultsV, resultV, go_sem, *, Nat.reduceLT, Int.reduceEq, Int.reduceBEq, Int.reduceLE, Int.reduceLT, Nat.reduceAdd, Nat.reduceBEq, Nat.reduceEqDiff, reduceIte, Nat.reduceLeDiff, Nat.reduceMul, Nat.reduceSub, reduceCtorEq, frzRes, dFrz, frzCells, isRet_ret, tupleOf]
  · cases h
theorem K75 {X : Ctx} (hX : X.intr 75 = some (flatFn sp75)) (la : AV) (l : List Int) (n : Int) (h : Heap) (hl : SeeV h intC la l) : Cl X 75 [la, .int .i64 n] h (.ret (.bool (hasB l n)) h none) := by
  obtain ⟨la', v1, s1⟩ := hl
  have e : viewV h (.int .i64 n) = some (.int .i64 n) := rfl
  exact Cl.intr hX (by simp [flatFn, viewVs, v1, e, sp75, s1])
theorem SeeV.blt {α : Type} {c : Cd α} {a : AV} {sz : Nat} {l : List α} {h : Heap} (b : Blt h a sz (l.map c.enc)) (hl : l.length ≤ maxL) : SeeV h c a l :=
  ⟨_, b.view (enc_pur c l), slV_slN hl⟩
theorem SeeV.nats {a : AV} {l : List Nat} {h : Heap} (b : Blt h a 1 (natsV l)) (hl : l.length ≤ maxL) : SeeV h intC a (l.map fun k : Nat => (k : Int)) := by
  have h1 : natsV l = (l.map fun k : Nat => (k : Int)).map intC.enc := by simp [natsV, intC]
  rw [h1] at b
  exact SeeV.blt b (by simpa using hl)
theorem F51D : IntrFn Tryz.prog 51 (flatFnD sp162) := flatD_fn (X := dX cHD) cHD_sound (fun args v h => by
  unfold sp162 at h
  split at h
  · simp only [Option.map_eq_some_iff] at h; obtain ⟨l, _, rfl⟩ := h; rfl
  · cases h) R51
theorem K51D {X : Ctx} (hX : X.intr 51 = some (flatFnD sp162)) (ha : AV) (hs : List Pt) (err : Int) (h : Heap) (hl : SeeV h ptC ha hs) : Cl X 51 [.agg [ha, .int .i64 err]] h (.ret (.bool (butB hs err)) h none) := by
  obtain ⟨ha', v1, s1⟩ := hl
  exact Cl.intr hX (by simp [flatFnD, viewDs, viewD_but v1, sp162, s1])
end Go.AM
