/-
  Texts of the proof: an evaluator of the program's code, its soundness, contracts of functions.
-/
import Derived.Test.YtlhcjccaimmhgaaGreatDoorQAR
import Derived.Test.YtlhcjccaimmhgaaGreatDoorQAQ
set_option linter.unusedSectionVars false
set_option linter.unusedVariables false
set_option linter.unusedSimpArgs false
set_option maxRecDepth 100000
namespace Go.AM
open Go Go.Proofs
variable [Keep]
attribute [local irreducible] W WO WO1 WD WQ WT thenQ blockQ endR isRet retK Cl ClR
attribute [local irreducible] roundQ RdR clR boundsS machB boxL suitB bothV axisV refBoxes
theorem bothV_held {st : List Pt} {cx cy wx wy : Sp} {rs : List Rdg} {ms : List Held} (h : machB st cx cy wx wy rs = true) (hm : ∀ m ∈ ms, HeldOk m) : ∃ x y, bothV cx cy wx wy (marksOf rs ++ ms) = .tuple [x, y, .bool ((boundsS (ax0 cx wx rs ms)).isSome && (boundsS (ax1 cy wy rs ms)).isSome)] ∧
    outV (some x) = some x ∧ outV (some y) = some y ∧ isTuple x = false ∧ isTuple y = false ∧ (∀ t, boundsS (ax0 cx wx rs ms) = some t → x = .vslice (t.map spC.enc)) ∧ (∀ t, boundsS (ax1 cy wy rs ms) = some t → y = .vslice (t.map spC.enc)) := by
  obtain ⟨x, e1, e2, e3, e4⟩ := axO_is (boundsS (ax0 cx wx rs ms))
  obtain ⟨y, f1, f2, f3, f4⟩ := axO_is (boundsS (ax1 cy wy rs ms))
  refine ⟨x, y, ?_, e2, f2, e3, f3, fun t ht => e4 t ht (boundsS_len ht), fun t ht => f4 t ht (boundsS_len ht)⟩
  unfold bothV
  rw [axisXh h hm, axisYh h hm, e1, f1]
  rfl
theorem K109 {X : Ctx} (hX : X.intr 109 = some (pureFn sp109)) (sa ra ha : AV) (ss hs : List Pt) (rs : List Rdg) (cx cy wx wy : Sp) (err : Int) (hl : slV ptC sa = some ss) (hr : slV rdgC ra = some rs) (hh : slV ptC ha = some hs) (hg : hs.length = ss.length ∧ 1 ≤ ss.length ∧ ss.length ≤ 4) (h : Heap) :
    Cl X 109 [.agg [sa, .int .i64 cx.lo, .int .i64 cx.hi, .int .i64 cy.lo, .int .i64 cy.hi, .int .i64 wx.lo, .int .i64 wx.hi, .int .i64 wy.lo, .int .i64 wy.hi, ra], .agg [ha, .int .i64 err]] h (.ret (slN ((refBoxes err ss hs 8).map markE)) h none) :=
  Cl.intr hX (by
    have e : (decide (hs.length = ss.length) && decide (1 ≤ ss.length) && decide (ss.length ≤ 4)) = true := by
      simp only [Bool.and_eq_true, decide_eq_true_eq]; omega
    simp [pureFn, AV.pur, AV.purL, sl_pur hl, sl_pur hr, sl_pur hh, sp109, hl, hr, hh, e])
theorem lev_small4 {n : Nat} (h : n ≤ 4) : (lev n n).length ≤ 24 := by
  match n, h with
  | 0, _ => decide
  | 1, _ => decide
  | 2, _ => decide
  | 3, _ => decide
  | 4, _ => decide
theorem refTo_lenB (err : Int) (ss hs : List Pt) (t : Nat) : ∀ (os : List (List Nat)) (out : List Bx), (refTo err ss hs t os out).length ≤ out.length + os.length := by
  intro os
  induction os with
  | nil => intro out; exact Nat.le_refl _
  | cons o r ih =>
    intro out
    have h1 := ih (addB out (refBx err ss hs t o ss.length))
    have h2 := addB_len out (refBx err ss hs t o ss.length)
    have e : refTo err ss hs t (o :: r) out = refTo err ss hs t r (addB out (refBx err ss hs t o ss.length)) := rfl
    rw [e, List.length_cons]
    omega
theorem refBoxes_lenB (err : Int) {ss hs : List Pt} (h : ss.length ≤ 4) : ∀ k, (refBoxes err ss hs k).length ≤ 24 * k := by
  intro k
  induction k with
  | zero => unfold refBoxes; simp
  | succ k ih =>
    rw [refBoxes_succ]
    have h1 := refTo_lenB err ss hs k (lev ss.length ss.length) (refBoxes err ss hs k)
    have h2 := lev_small4 h
    omega
theorem mkE_idx {l : List Bx} {k : Nat} {y : Bx} (h : l[k]? = some y) (H : Heap) : indexAddrV Tryz.prog H 156 (slN (l.map markE)) (.int .i64 ↑k) = some (.vptr [.int .i64 0, .int .i64 y.x.lo, .int .i64 y.x.hi, .int .i64 y.y.lo, .int .i64 y.y.hi]) :=
  (slN_is _).idx (x := markE y) Tryz.underlying156 ty_lay181 (by simp [h]) rfl
theorem any_ref {err : Int} {ss hs : List Pt} {cx cy wx wy : Sp} {rs : List Rdg} (h : suitB (machB ss cx cy wx wy rs) ss hs err = true) (p : Bx → Bool) : (refBoxes err ss hs 8).any p = (boxL err ss hs).any p ∧ ∀ y ∈ refBoxes err ss hs 8, BdB y := by
  obtain ⟨h1, h2, h3, h4, h5⟩ := suit_pts h
  rw [refBoxes_dd h1 h2 h3 h4 h5]
  refine ⟨dd_any p _, fun y hy => ?_⟩
  rw [dd_mem] at hy
  rcases hy with q | q
  · cases q
  · exact (boxL_bd h1 h2 h3 h4 h5 y q).1
noncomputable def cHT : FuncId → Option (List AV → Heap → Option (AV × Heap))
  | 105 => some (pureFn sp105)
  | 106 => some (pureFn sp106)
  | 109 => some (pureFn sp109)
  | 120 => some (pureFn sp120)
  | _ => none
theorem cHT_sound : Sound (dX cHT) := dX_sound (fun f g h => by
  unfold cHT at h
  split at h
  · cases h; exact F105
  · cases h; exact F106
  · cases h; exact F109
  · cases h; exact F120
  · cases h)
def sp68 : List AV → Option AV
  | [.agg [sa, .int .i64 cxl, .int .i64 cxh, .int .i64 cyl, .int .i64 cyh, .int .i64 wxl, .int .i64 wxh, .int .i64 wyl, .int .i64 wyh, ra], .agg [ha, .int .i64 err]] => match slV ptC sa, slV rdgC ra, slV ptC ha with
    | some ss, some rs, some hs => if suitB (machB ss ⟨cxl, cxh⟩ ⟨cyl, cyh⟩ ⟨wxl, wxh⟩ ⟨wyl, wyh⟩ rs) ss hs err = true then
        some (slN (natsV (couldN (fun n => (boxL err ss hs).any (canB ⟨cxl, cxh⟩ ⟨cyl, cyh⟩ ⟨wxl, wxh⟩ ⟨wyl, wyh⟩ rs n)) 12))) else none
    | _, _, _ => none
  | _ => none
theorem p68 : ∀ args v, sp68 args = some v → v.pur = true := by
  intro args v h
  unfold sp68 at h
  split at h
  · split at h
    · split at h
      · have h := Option.some.inj h
        subst h
        exact slN_pur (natsV_pur _)
      · cases h
    · cases h
  · cases h
set_option maxHeartbeats 4000000 in
theorem F68 : IntrFn Tryz.prog 68 (pureFn sp68) := by
  refine pure_fn (X := dX cHT) cHT_sound p68 ?_
  intro args v h
  unfold sp68 at h
  split at h
  · rename_i sa cxl cxh cyl cyh wxl wxh wyl wyh ra ha err
    split at h
    · rename_i ss rs hs hl hr hh
      split at h
      · rename_i hc
        have h := Option.some.inj h
        subst h
        obtain ⟨hmb, _, hsl, hn2, hn4, hr4⟩ := suit_small hc
        have o1 := sl_out hh
        have o2 := sl_out hl
        have o3 := sl_out hr
        obtain ⟨one1, t1⟩ := sl_one hh
        obtain ⟨one2, t2⟩ := sl_one hl
        obtain ⟨one3, t3⟩ := sl_one hr
        have b109 := fun hp => K109 (X := dX cHT) rfl sa ra ha ss hs rs ⟨cxl, cxh⟩ ⟨cyl, cyh⟩ ⟨wxl, wxh⟩ ⟨wyl, wyh⟩ err hl hr hh ⟨hsl, by omega, hn4⟩ hp
        have m106 := fun hp => K106 (X := dX cHT) rfl sa ra ss rs ⟨cxl, cxh⟩ ⟨cyl, cyh⟩ ⟨wxl, wxh⟩ ⟨wyl, wyh⟩ hl hr hp
        have hbd := (any_ref hc fun _ => true).2
        have hany := fun p => (any_ref hc p).1
        have hbl : (refBoxes err ss hs 8).length ≤ 192 := refBoxes_lenB err hn4 8
        have w120 := fun (n : Nat) (y : Bx) hp => K120 (X := dX cHT) rfl _ _ 0 n y (slH_marks hr) (by simp [marksOf]; omega) hp
        have b105 : ∀ (n : Nat) (y : Bx), n ≤ 12 → BdB y → ∃ a b, outV (some a) = some a ∧ outV (some b) = some b ∧ isTuple a = false ∧ isTuple b = false ∧ ∀ hp, Cl (dX cHT) 105 [.agg [sa, .int .i64 cxl, .int .i64 cxh, .int .i64 cyl, .int .i64 cyh, .int .i64 wxl, .int .i64 wxh, .int .i64 wyl, .int .i64 wyh, ra], slN ((marksOf rs ++ [Held.mk n y.x y.y]).map heldC.enc)] hp (.ret (.tuple [a, b, .bool (canB ⟨cxl, cxh⟩ ⟨cyl, cyh⟩ ⟨wxl, wxh⟩ ⟨wyl, wyh⟩ rs n y)]) hp none) := by
          intro n y hn hy
          have hm : ∀ m ∈ [Held.mk n y.x y.y], HeldOk m := fun m q => by
            simp only [List.mem_singleton] at q
            subst q
            exact held_box hn hy
          obtain ⟨a, b, e, q1, q2, q3, q4, _⟩ := bothV_held hmb hm
          refine ⟨a, b, q1, q2, q3, q4, fun hp => ?_⟩
          have := K105 (X := dX cHT) rfl sa ra _ ss rs _ ⟨cxl, cxh⟩ ⟨cyl, cyh⟩ ⟨wxl, wxh⟩ ⟨wyl, wyh⟩ hl hr (slV_slN (c := heldC) (l := marksOf rs ++ [Held.mk n y.x y.y]) (by simp [marksOf]; unfold maxL; omega)) (held_blk hmb hm) hp
          rw [e] at this
          exact this
        have HB109 := Lib.hid b109
        have HM106 := Lib.hid m106
        have HW120' := Lib.hid w120
        have HB105' := Lib.hid b105
        have HBD := Lib.hid hbd
        have HBL := Lib.hid hbl
        have hpp : ∀ n, (fun n => (boxL err ss hs).any (canB ⟨cxl, cxh⟩ ⟨cyl, cyh⟩ ⟨wxl, wxh⟩ ⟨wyl, wyh⟩ rs n)) n = (refBoxes err ss hs 8).any (canB ⟨cxl, cxh⟩ ⟨cyl, cyh⟩ ⟨wxl, wxh⟩ ⟨wyl, wyh⟩ rs n) := fun n => (hany _).symm
        have HPP := Lib.hid hpp
        generalize (fun n => (boxL err ss hs).any (canB ⟨cxl, cxh⟩ ⟨cyl, cyh⟩ ⟨wxl, wxh⟩ ⟨wyl, wyh⟩ rs n)) = p at *
        generalize refBoxes err ss hs 8 = bxs at *
        have hba := slN_is (bxs.map markE)
        have oba := hba.out
        have lba := hba.len
        have tba := hba.tup
        rw [List.length_map] at lba
        simp only [isTuple] at tba
        have omk := (slN_is ((marksOf rs).map heldC.enc)).out
        have tmk := (slN_is ((marksOf rs).map heldC.enc)).tup
        clear hany hpp hbd hbl b105 w120 m106 b109 hl hh hr hc hmb hsl hba
        refine ClR.walk (c := _) rfl Tryz.func68 rfl (by kernel_rfl) rfl isRet_fail ?_
        simp only [entryEnv, Nat.reduceAdd, emptyHp]
        repeat' (first | refine goS ?_ | (apply U6; exact Z1; exact Z1; (focus (simp only [List.nil_append, List.append_nil]; first | exact HB109.out _)); simp only [pM, pN, rR, rP]) | refine go2 (fun hh => ?_) (fun hh => ?_) | fail)
        refine W.loopN 12 (fun k F => ∃ e lm hp u, F = Fr.mk 68 false e lm hp [] none ∧ Blt hp u 1 (natsV (couldN p k)) ∧ lm.get 2 = some (0, [sa, .int .i64 cxl, .int .i64 cxh, .int .i64 cyl, .int .i64 cyh, .int .i64 wxl, .int .i64 wxh, .int .i64 wyl, .int .i64 wyh, ra]) ∧ e.get 2 = some (.lptr 2 0 0) ∧ e.get 5 = some u ∧ e.get 6 = some (slN (bxs.map markE)) ∧ e.get 7 = some (.int .i64 ↑(k + 1)) ∧ k ≤ 12) ?_ ?_
        · refine ⟨_, _, _, .nilslice, rfl, Blt.nil, ?_, ?_, ?_, ?_, ?_, ?_⟩ <;> first | exact Z2 | simp [go_sem, *]
        rintro k F ⟨e, lm, hp, u, rfl, hbu, l2, h2, h5, h6, h7, hk⟩
        have HBU := Lib.hid hbu
        have ou := hbu.out
        have cu := hbu.cells
        have tu := hbu.tup
        simp only [AV.cells] at cu
        simp only [isTuple] at tu
        clear hbu
        by_cases hlt : k < 12
        · have hd : decide (((k + 1 : Nat) : Int) ≤ 12) = true := by simp; omega
          have hw : IntKind.i64.wrap (((k + 1 : Nat) : Int) + 1) = ((k + 1 + 1 : Nat) : Int) := wrap_succ (k := k + 1) (m := 13) (by omega) (by unfold maxL; omega)
          have hsucc := couldN_succ p k
          have HSU := Lib.hid hsucc
          have hll : (couldN p k).length + (0 + 1) ≤ most := by
            have := couldN_len p k
            unfold most; omega
          have hpk := HPP.out (k + 1)
          have HPK := Lib.hid hpk
          clear hsucc hpk
          repeat' (first | refine goS ?_ | refine go2 (fun hh => ?_) (fun hh => ?_) | fail)
          refine W.loopN bxs.length (fun i F => ∃ e, F = Fr.mk 68 false e lm hp [] none ∧ e.get 8 = some (.bool ((bxs.take i).any (canB ⟨cxl, cxh⟩ ⟨cyl, cyh⟩ ⟨wxl, wxh⟩ ⟨wyl, wyh⟩ rs (k + 1)))) ∧ e.get 9 = some (.int .i64 ↑i) ∧ e.get 2 = some (.lptr 2 0 0) ∧ e.get 5 = some u ∧ e.get 6 = some (slN (bxs.map markE)) ∧ e.get 7 = some (.int .i64 ↑(k + 1)) ∧ i ≤ bxs.length) ?_ ?_
          · refine ⟨_, rfl, ?_, ?_, ?_, ?_, ?_, ?_, ?_⟩ <;> first | exact Z2 | simp [go_sem, *]
          clear h2 h5 h6 h7 hd
          rintro i F ⟨e, rfl, h8, h9, h2, h5, h6, h7, hi⟩
          have hcase : (∃ y, bxs[i]? = some y ∧ i < bxs.length ∧ (bxs.take i).any (canB ⟨cxl, cxh⟩ ⟨cyl, cyh⟩ ⟨wxl, wxh⟩ ⟨wyl, wyh⟩ rs (k + 1)) = false) ∨ (decide ((i : Int) < (bxs.length : Int)) = true ∧ (bxs.take i).any (canB ⟨cxl, cxh⟩ ⟨cyl, cyh⟩ ⟨wxl, wxh⟩ ⟨wyl, wyh⟩ rs (k + 1)) = true ∧ p (k + 1) = true) ∨ (decide ((i : Int) < (bxs.length : Int)) = false ∧ (bxs.take i).any (canB ⟨cxl, cxh⟩ ⟨cyl, cyh⟩ ⟨wxl, wxh⟩ ⟨wyl, wyh⟩ rs (k + 1)) = p (k + 1)) := by
            by_cases hil : i < bxs.length
            · cases q : (bxs.take i).any (canB ⟨cxl, cxh⟩ ⟨cyl, cyh⟩ ⟨wxl, wxh⟩ ⟨wyl, wyh⟩ rs (k + 1)) with
              | false =>
                obtain ⟨y, hy⟩ := get_some hil
                exact .inl ⟨y, hy, hil, rfl⟩
              | true =>
                refine .inr (.inl ⟨by simpa using hil, rfl, ?_⟩)
                rw [HPK.out, List.any_eq_true]
                rw [List.any_eq_true] at q
                obtain ⟨y, q1, q2⟩ := q
                exact ⟨y, List.mem_of_mem_take q1, q2⟩
            · refine .inr (.inr ⟨by simpa using hil, ?_⟩)
              rw [show i = bxs.length by omega, List.take_length, HPK.out]
          rcases hcase with ⟨y, hy, hil, hf⟩ | ⟨hd, hf, hpv⟩ | ⟨hd, hf⟩
          · have hd : decide ((i : Int) < (bxs.length : Int)) = true := by simpa using hil
            have hw2 := wrap_succ (m := bxs.length) hil (by have := HBL.out; unfold maxL; omega)
            have hix := fun H => mkE_idx hy H
            have w120 := HW120'.out (k + 1) y
            obtain ⟨a, b, oa, ob, ta, tb, b105⟩ := HB105'.out (k + 1) y (by omega) (HBD.out y (List.mem_of_getElem? hy))
            have hnx := any_take (canB ⟨cxl, cxh⟩ ⟨cyl, cyh⟩ ⟨wxl, wxh⟩ ⟨wyl, wyh⟩ rs (k + 1)) hy
            rw [hf, Bool.false_or] at hnx
            rw [hf] at h8
            have HNX := Lib.hid hnx
            have HW120 := Lib.hid w120
            have HB105 := Lib.hid b105
            have own := (slN_is ((marksOf rs ++ [Held.mk ((k + 1 : Nat) : Int) y.x y.y]).map heldC.enc)).out
            have twn := (slN_is ((marksOf rs ++ [Held.mk ((k + 1 : Nat) : Int) y.x y.y]).map heldC.enc)).tup
            clear hf hnx hy w120 b105 HW120' HB105' HPP
            generalize slN ((marksOf rs ++ [Held.mk ((k + 1 : Nat) : Int) y.x y.y]).map heldC.enc) = wn at *
            generalize slN ((marksOf rs).map heldC.enc) = mk0 at *
            generalize canB ⟨cxl, cxh⟩ ⟨cyl, cyh⟩ ⟨wxl, wxh⟩ ⟨wyl, wyh⟩ rs (k + 1) y = cb at *
            repeat' (first | (apply W.drawQ (id := 10) (l1 := [0, 1, 2, 3, 4, 5, 6, 7, 8, 9, 10, 11, 12, 13, 14]) (l2 := []); kernel_rfl; kernel_rfl; kernel_rfl; exact Z4) | refine go1 ?_ | (apply U6; exact Z1; exact Z1; (focus (simp only [List.nil_append, List.append_nil]; first | exact HM106.out _ | exact HW120.out _ | exact HB105.out _)); simp only [pM, pN, rR, rP]) | refine go2 (fun hh => ?_) (fun hh => ?_) | fail)
            refine ⟨hil, _, rfl, ?_, ?_, ?_, ?_, ?_, ?_, by omega⟩
            · rw [HNX.out]; simp only [go_sem, *, Nat.reduceLT, Int.reduceEq, Int.reduceBEq, Int.reduceLE, Int.reduceLT, Nat.reduceAdd, Nat.reduceBEq, Nat.reduceEqDiff, reduceIte, Nat.reduceLeDiff, Nat.reduceMul, Nat.reduceSub, reduceCtorEq]
            all_goals exact Z2
          · rw [hf] at h8
            have hs2 : couldN p (k + 1) = couldN p k ++ [k + 1] := by rw [HSU.out, if_pos hpv]
            have HS := Lib.hid hs2
            clear hf hs2 hpv HSU HPP HPK
            repeat' (first | (apply WO1.appendE (t := 39) (u := 39) (e := 3) (e' := 3) (sz := 1) (tl := []) (hb := HBU.out); exact Z1; exact rfl; exact Z2; exact Z2; exact Z2; (focus (exact ty_row39)); exact Z1; (focus (intro v hv; simp at hv; subst hv; rfl)); (focus (simp only [natsV_len, List.length_cons, List.length_nil]; exact hll)); (focus (simp)); (intro v2 hp2 hB2 ho2 hK2 hE2; have hc2 := hB2.cells; have ht2 := hB2.tup; simp only [AV.cells] at hc2; simp only [isTuple] at ht2; simp only [pM, pN])) | refine go1 ?_ | refine go2 (fun hh => ?_) (fun hh => ?_) | fail)
            refine ⟨hlt, _, _, hp2, v2, rfl, ?_, ?_, ?_, ?_, ?_, ?_, by omega⟩
            · rw [HS.out]
              have e4 : natsV (couldN p k ++ [k + 1]) = natsV (couldN p k) ++ [.int .i64 ((k + 1 : Nat) : Int)] := by simp [natsV]
              rw [e4]; exact hB2
            all_goals exact Z2
          · rw [hf] at h8
            cases hpv : p (k + 1) with
            | true =>
              have hs2 : couldN p (k + 1) = couldN p k ++ [k + 1] := by rw [HSU.out, if_pos hpv]
              rw [hpv] at h8
              have HS := Lib.hid hs2
              clear hf hs2 hpv HSU HPP HPK
              repeat' (first | (apply WO1.appendE (t := 39) (u := 39) (e := 3) (e' := 3) (sz := 1) (tl := []) (hb := HBU.out); exact Z1; exact rfl; exact Z2; exact Z2; exact Z2; (focus (exact ty_row39)); exact Z1; (focus (intro v hv; simp at hv; subst hv; rfl)); (focus (simp only [natsV_len, List.length_cons, List.length_nil]; exact hll)); (focus (simp)); (intro v2 hp2 hB2 ho2 hK2 hE2; have hc2 := hB2.cells; have ht2 := hB2.tup; simp only [AV.cells] at hc2; simp only [isTuple] at ht2; simp only [pM, pN])) | refine go1 ?_ | refine go2 (fun hh => ?_) (fun hh => ?_) | fail)
              refine ⟨hlt, _, _, hp2, v2, rfl, ?_, ?_, ?_, ?_, ?_, ?_, by omega⟩
              · rw [HS.out]
                have e4 : natsV (couldN p k ++ [k + 1]) = natsV (couldN p k) ++ [.int .i64 ((k + 1 : Nat) : Int)] := by simp [natsV]
                rw [e4]; exact hB2
              all_goals exact Z2
            | false =>
              have hs2 : couldN p (k + 1) = couldN p k := by rw [HSU.out, if_neg (by rw [hpv]; simp)]
              rw [hpv] at h8
              have HS := Lib.hid hs2
              clear hf hs2 hpv HSU HPP HPK
              repeat' (first | refine goS ?_ | refine go2 (fun hh => ?_) (fun hh => ?_) | fail)
              refine ⟨hlt, _, _, hp, u, rfl, ?_, ?_, ?_, ?_, ?_, ?_, by omega⟩
              · rw [HS.out]; exact HBU.out
              all_goals exact Z2
        · have hd : decide (((k + 1 : Nat) : Int) ≤ 12) = false := by simp; omega
          have hk12 : k = 12 := by omega
          subst hk12
          obtain ⟨hf', y1, y2, y3⟩ := HBU.out.freeze
          clear hlt hk
          repeat' (first | refine goS ?_ | refine go2 (fun hh => ?_) (fun hh => ?_) | fail)
          all_goals simp only [resV_def (X := dX cHT) Tryz.func68, Tryz.results68, resultsV, resultV, go_sem, *, Nat.reduceLT, Int.reduceEq, Int.reduceBEq, Int.reduceLE, Int.reduceLT, Nat.reduceAdd, Nat.reduceBEq, Nat.reduceEqDiff, reduceIte, Nat.reduceLeDiff, Nat.reduceMul, Nat.reduceSub, reduceCtorEq, frzRes, dFrz, frzCells, isRet_ret, tupleOf]
      · cases h
    · cases h
  · cases h
theorem K68 {X : Ctx} (hX : X.intr 68 = some (pureFn sp68)) (m : MA) (ha : AV) (hs : List Pt) (err : Int) (hok : m.ok = true) (hh : slV ptC ha = some hs) (hg : m.suit hs err = true) (h : Heap) :
    Cl X 68 [machC.enc m, .agg [ha, .int .i64 err]] h (.ret (slN (natsV (m.could hs err))) h none) :=
  Cl.intr hX (by
    obtain ⟨q1, q2⟩ := MA.ok_is hok
    have e : suitB (machB m.stops m.cx m.cy m.wx m.wy m.rdgs) m.stops hs err = true := hg
    simp [pureFn, AV.pur, AV.purL, m.ps.1, m.ps.2, sl_pur hh, machC, sp68, q1, q2, hh, e, MA.could])
noncomputable def cHT2 : FuncId → Option (List AV → Heap → Option (AV × Heap))
  | 68 => some (pureFn sp68)
  | _ => none
theorem cHT2_sound : Sound (dX cHT2) := dX_sound (fun f g h => by
  unfold cHT2 at h
  split at h
  · cases h; exact F68
  · cases h)
def sp69 : List AV → Option AV
  | [la, .agg [ha, .int .i64 err]] => match slV machC la, slV ptC ha with
    | some l, some hs => if (l.all MA.ok && l.all (fun m => m.suit hs err)) = true then some (slN (natsV (whoN hs err l l.length))) else none
    | _, _ => none
  | _ => none
theorem p69 : ∀ args v, sp69 args = some v → v.pur = true := by
  intro args v h
  unfold sp69 at h
  split at h
  · split at h
    · split at h
      · have h := Option.some.inj h
        subst h
        exact slN_pur (natsV_pur _)
      · cases h
    · cases h
  · cases h
set_option maxHeartbeats 2000000 in
theorem F69 : IntrFn Tryz.prog 69 (pureFn sp69) := by
  refine pure_fn (X := dX cHT2) cHT2_sound p69 ?_
  intro args v h
  unfold sp69 at h
  split at h
  · rename_i la ha err
    split at h
    · rename_i l hs hl hh
      split at h
      · rename_i hc
        have h := Option.some.inj h
        subst h
        rw [Bool.and_eq_true] at hc
        obtain ⟨hok, hsu⟩ := hc
        have o1 := sl_out hl
        have ln := sl_len hl
        have hmax := sl_max hl
        have o3 := sl_out hh
        obtain ⟨n3, t3⟩ := sl_one hh
        obtain ⟨n1, t1⟩ := sl_one hl
        have HL := Lib.hid hl
        have HH := Lib.hid hh
        have HOK := Lib.hid hok
        have HSU := Lib.hid hsu
        clear hl hh hok hsu
        refine ClR.walk (c := _) rfl Tryz.func69 rfl (by kernel_rfl) rfl isRet_fail ?_
        simp only [entryEnv, Nat.reduceAdd, emptyHp]
        repeat' (first | refine goS ?_ | refine go2 (fun hh => ?_) (fun hh => ?_) | fail)
        refine W.loopN l.length (fun k F => ∃ e lm hp u, F = Fr.mk 69 false e lm hp [] none ∧ Blt hp u 1 (natsV (whoN hs err l k)) ∧ lm.get 3 = some (0, [ha, .int .i64 err]) ∧ e.get 3 = some (.lptr 3 0 0) ∧ e.get 5 = some u ∧ e.get 0 = some la ∧ e.get 6 = some (.int .i64 ↑k) ∧ k ≤ l.length) ?_ ?_
        · refine ⟨_, _, _, .nilslice, rfl, Blt.nil, ?_, ?_, ?_, ?_, ?_, ?_⟩ <;> first | exact Z2 | simp [go_sem, *]
        rintro k F ⟨e, lm, hp, u, rfl, hbu, l3, h3, h5, h0, h6, hk⟩
        have HBU := Lib.hid hbu
        have ou := hbu.out
        have cu := hbu.cells
        have tu := hbu.tup
        simp only [AV.cells] at cu
        simp only [isTuple] at tu
        clear hbu
        by_cases hlt : k < l.length
        · obtain ⟨m, hm⟩ := get_some hlt
          have hmem := List.mem_of_getElem? hm
          have hmo := List.all_eq_true.1 HOK.out m hmem
          obtain ⟨c1, c2⟩ := MA.cells hmo
          obtain ⟨q1, q2⟩ := MA.ok_is hmo
          have hix := fun h => mach_idx HL.out hm ⟨by rw [c1]; rfl, by rw [c2]; rfl⟩ h
          have p1 := sl_out q1
          have p2 := sl_out q2
          obtain ⟨n4, t4⟩ := sl_one q1
          obtain ⟨n5, t5⟩ := sl_one q2
          have hd : decide ((k : Int) < (l.length : Int)) = true := by simpa using hlt
          have hw := wrap_succ hlt hmax
          have c68 := fun hp => K68 (X := dX cHT2) rfl m ha hs err hmo HH.out (List.all_eq_true.1 HSU.out m hmem) hp
          simp only [machC] at c68
          have HC68 := Lib.hid c68
          have hsucc := whoN_succ (hs := hs) (err := err) hm
          have ov := (slN_is (natsV (m.could hs err))).out
          have lv := (slN_is (natsV (m.could hs err))).len
          have tv := (slN_is (natsV (m.could hs err))).tup
          rw [natsV_len] at lv
          simp only [AV.cells] at c1 c2
          simp only [isTuple] at tv
          cases hem : (m.could hs err).isEmpty with
          | true =>
            have hd2 : decide (((m.could hs err).length : Int) > 0) = false := by
              rw [List.isEmpty_iff.1 hem]; rfl
            rw [hem, if_pos rfl] at hsucc
            have HS := Lib.hid hsucc
            clear hmem hmo q1 q2 hm hsucc hem c68
            repeat' (first | (apply W.drawQ (id := 5) (l1 := [0, 1, 2, 3, 4, 5, 6, 7]) (l2 := []); kernel_rfl; kernel_rfl; kernel_rfl; exact Z4) | refine go1 ?_ | (apply U6; exact Z1; exact Z1; (focus (simp only [List.nil_append, List.append_nil]; first | exact HC68.out _)); simp only [pM, pN, rR, rP]) | refine go2 (fun hh => ?_) (fun hh => ?_) | fail)
            refine ⟨hlt, _, _, hp, u, rfl, ?_, ?_, ?_, ?_, ?_, ?_, by omega⟩
            · rw [HS.out]; exact HBU.out
            all_goals exact Z2
          | false =>
            have hd2 : decide (((m.could hs err).length : Int) > 0) = true := by
              have : (m.could hs err) ≠ [] := fun q => by rw [q] at hem; cases hem
              have := List.length_pos_iff.2 this
              simp only [decide_eq_true_eq]; omega
            rw [hem, if_neg (by simp)] at hsucc
            have hll : (whoN hs err l k).length + (0 + 1) ≤ most := by
              have := whoN_len hs err l k
              unfold most
              unfold maxL at hmax
              omega
            have HS := Lib.hid hsucc
            clear hmem hmo q1 q2 hm hsucc hem c68
            repeat' (first | (apply W.drawQ (id := 5) (l1 := [0, 1, 2, 3, 4, 5, 6, 7]) (l2 := []); kernel_rfl; kernel_rfl; kernel_rfl; exact Z4) | (apply WO1.appendE (t := 39) (u := 39) (e := 3) (e' := 3) (sz := 1) (tl := []) (hb := HBU.out); exact Z1; exact rfl; exact Z2; exact Z2; exact Z2; (focus (exact ty_row39)); exact Z1; (focus (intro v hv; simp at hv; subst hv; rfl)); (focus (simp only [natsV_len, List.length_cons, List.length_nil]; exact hll)); (focus (simp)); (intro v2 hp2 hB2 ho2 hK2 hE2; have hc2 := hB2.cells; have ht2 := hB2.tup; simp only [AV.cells] at hc2; simp only [isTuple] at ht2; simp only [pM, pN])) | refine go1 ?_ | (apply U6; exact Z1; exact Z1; (focus (simp only [List.nil_append, List.append_nil]; first | exact HC68.out _)); simp only [pM, pN, rR, rP]) | refine go2 (fun hh => ?_) (fun hh => ?_) | fail)
            refine ⟨hlt, _, _, hp2, v2, rfl, ?_, ?_, ?_, ?_, ?_, ?_, by omega⟩
            · rw [HS.out]
              have e4 : natsV (whoN hs err l k ++ [k]) = natsV (whoN hs err l k) ++ [.int .i64 (k : Int)] := by simp [natsV]
              rw [e4]; exact hB2
            all_goals exact Z2
        · have hd : decide ((k : Int) < (l.length : Int)) = false := by simpa using hlt
          have hkl : k = l.length := by omega
          subst hkl
          obtain ⟨hf', y1, y2, y3⟩ := HBU.out.freeze
          clear hlt hk
          repeat' (first | refine goS ?_ | refine go2 (fun hh => ?_) (fun hh => ?_) | fail)
          all_goals simp only [resV_def (X := dX cHT2) Tryz.func69, Tryz.results69, resultsV, resultV, go_sem, *, Nat.reduceLT, Int.reduceEq, Int.reduceBEq, Int.reduceLE, Int.reduceLT, Nat.reduceAdd, Nat.reduceBEq, Nat.reduceEqDiff, reduceIte, Nat.reduceLeDiff, Nat.reduceMul, Nat.reduceSub, reduceCtorEq, frzRes, dFrz, frzCells, isRet_ret, tupleOf]
      · cases h
    · cases h
  · cases h
end Go.AM
set_option linter.unusedSectionVars false
set_option linter.unusedVariables false
set_option linter.unusedSimpArgs false
set_option maxRecDepth 100000
namespace Go.AM
open Go Go.Proofs
variable [Keep]
attribute [local irreducible] W WO WO1 WD WQ WT thenQ blockQ endR isRet retK Cl ClR
attribute [local irreducible] roundQ RdR clR boundsS machB boxL suitB MA.could MA.poss MA.suit MA.mach
section
variable {X : Ctx} {ops : Array Oper} {K P : AV → Fr → Prop} {F : Fr} {d : Option Tmp} {op : Op} {T : TypeId} {p : String} {af : Array Edge} {j : Nat} {want : Bool} {o : Oper} {t : Tmp}
theorem WO1.gux (ho : ops[j]? = some o) (ht : o.dst = some t) (hb : F.e.get t = some undefA) (h : K undefA (F.put d undefA)) : WO1 X ops ⟨d, op, T, p, af, some (j, want)⟩ F K P := by
  have hg : guardOk ops F ⟨d, op, T, p, af, some (j, want)⟩ = true := by simp [guardOk, ho, ht, hb, undefA]
  have hw : wantedA ops F ⟨d, op, T, p, af, some (j, want)⟩ = false := by simp [wantedA, yieldedA, ho, ht, hb, undefA]
  unfold WO1
  exact ⟨.val undefA (F.put d undefA), ⟨0, fun m _ => by simp [stepOp, hg, hw]⟩, h⟩
end
def sp54 : List AV → Option AV
  | [.agg [ha, .int .i64 _]] => (slLen ha).map fun (n : Nat) => AV.bool (decide ((n : Int) ≤ 6))
  | _ => none
theorem F54 : IntrFn Tryz.prog 54 (pureFn sp54) := by
  refine pure_fn (X := dX cP2) cP2_sound (fun a v h => by
    unfold sp54 at h
    split at h
    · simp only [Option.map_eq_some_iff] at h; obtain ⟨n, _, rfl⟩ := h; rfl
    · cases h) ?_
  intro args v h
  unfold sp54 at h
  split at h
  · simp only [Option.map_eq_some_iff] at h
    obtain ⟨n, hn, rfl⟩ := h
    obtain ⟨ln, ou, tu⟩ := slLen_is hn
    simp only [isTuple] at tu
    clear hn
    refine ClR.walk (c := _) rfl Tryz.func54 rfl (by kernel_rfl) rfl isRet_fail ?_
    simp only [entryEnv, Nat.reduceAdd]
    repeat' (first | refine goS ?_ | refine go2 (fun hh => ?_) (fun hh => ?_) | fail)
    all_goals simp only [resV_def (X := dX cP2) Tryz.func54, Tryz.results54, resultsV, resultV, go_sem, *, Nat.reduceLT, Int.reduceEq, Int.reduceBEq, Int.reduceLE, Int.reduceLT, Nat.reduceAdd, Nat.reduceBEq, Nat.reduceEqDiff, reduceIte, Nat.reduceLeDiff, Nat.reduceMul, Nat.reduceSub, reduceCtorEq, frzRes, dFrz, frzCells, isRet_ret, tupleOf]
  · cases h
theorem K54 {X : Ctx} (hX : X.intr 54 = some (pureFn sp54)) (ha : AV) (es : List AV) (err : Int) (hl : isSl ha es) (hp : ∀ x ∈ es, x.pur = true) (h : Heap) : Cl X 54 [.agg [ha, .int .i64 err]] h (.ret (.bool (decide ((es.length : Int) ≤ 6))) h none) :=
  Cl.intr hX (by simp [pureFn, AV.pur, AV.purL, hl.pur hp, sp54, slLen_mk hl])
def MA.good (m : MA) : Prop := ∃ (st : List Pt) (rs : List Rdg), isSl m.sa (st.map ptC.enc) ∧ isSl m.ra (rs.map rdgC.enc)
def MA.thin (m : MA) : Bool := decide ((((slLen m.sa).getD 0 : Nat) : Int) ≤ 6) && decide ((((slLen m.ra).getD 0 : Nat) : Int) ≤ 6)
theorem MA.good_thin {m : MA} (h : m.good) : slLen m.sa = some ((slLen m.sa).getD 0) ∧ slLen m.ra = some ((slLen m.ra).getD 0) := by
  obtain ⟨st, rs, h1, h2⟩ := h
  rw [slLen_mk h1, slLen_mk h2]
  exact ⟨rfl, rfl⟩
theorem MA.good_ok {m : MA} (h : m.good) (ht : m.thin = true) : m.ok = true := by
  obtain ⟨st, rs, h1, h2⟩ := h
  unfold MA.thin at ht
  rw [slLen_mk h1, slLen_mk h2] at ht
  simp only [Option.getD_some, List.length_map, Bool.and_eq_true, decide_eq_true_eq] at ht
  have e1 : slV ptC m.sa = some st := slV_mk h1 (by unfold maxL; omega)
  have e2 : slV rdgC m.ra = some rs := slV_mk h2 (by unfold maxL; omega)
  simp [MA.ok, e1, e2]
theorem MA.good_cells {m : MA} (h : m.good) : m.sa.cells = [m.sa] ∧ m.ra.cells = [m.ra] ∧ outV (some m.sa) = some m.sa ∧ outV (some m.ra) = some m.ra ∧ m.sa.one = true ∧ m.ra.one = true ∧ isTuple m.sa = false ∧ isTuple m.ra = false := by
  obtain ⟨st, rs, h1, h2⟩ := h
  have o : ∀ {a : AV} {es : List AV}, isSl a es → a.one = true := fun h => by rcases h with ⟨rfl | rfl, _⟩ | rfl <;> rfl
  exact ⟨h1.cells, h2.cells, h1.out, h2.out, o h1, o h2, h1.tup, h2.tup⟩
def oneI (hs : List Pt) (err : Int) (m : MA) : Int := if m.suit hs err then (if m.poss then 0 else 7) else 2
def stepW (w o : Int) : Int := if o == 2 then 2 else if o == 7 && w == 0 then 7 else w
def wantI (hs : List Pt) (err : Int) (l : List MA) : Int := l.foldl (fun w m => stepW w (oneI hs err m)) 0
theorem want_next {hs : List Pt} {err : Int} {l : List MA} {k : Nat} {m : MA} (h : l[k]? = some m) : wantI hs err (l.take (k + 1)) = stepW (wantI hs err (l.take k)) (oneI hs err m) := by
  unfold wantI
  rw [take_next h, List.foldl_append]
  rfl
theorem want_is (hs : List Pt) (err : Int) : ∀ l : List MA, wantI hs err l = if l.all (fun m => m.suit hs err) then (if l.all MA.poss then 0 else 7) else 2 := by
  have key : ∀ (l : List MA) (w : Int), (w = 0 ∨ w = 7 ∨ w = 2) → l.foldl (fun w m => stepW w (oneI hs err m)) w = if l.all (fun m => m.suit hs err) && (w != 2) then (if l.all MA.poss && (w == 0) then 0 else 7) else 2 := by
    intro l
    induction l with
    | nil => rintro w (rfl | rfl | rfl) <;> rfl
    | cons m r ih =>
      intro w hw
      rw [List.foldl_cons, ih _ (by unfold stepW; split; exact .inr (.inr rfl); split; exact .inr (.inl rfl); exact hw), List.all_cons, List.all_cons]
      unfold stepW oneI
      cases m.suit hs err <;> cases m.poss <;> rcases hw with rfl | rfl | rfl <;> simp
  intro l
  have := key l 0 (.inl rfl)
  unfold wantI
  rw [this]
  simp
theorem suit_parts (hs : List Pt) (err : Int) (m : MA) : m.suit hs err = (m.mach && butB hs err && decide (hs.length = m.stops.length)) := by unfold MA.suit suitB; rfl
noncomputable def c15 : FuncId → Option (List AV → Heap → Option (AV × Heap))
  | 38 => some (pureFn sp38)
  | 40 => some (pureFn sp40)
  | 51 => some (pureFn sp162)
  | 53 => some (flatFn sp53)
  | 54 => some (pureFn sp54)
  | 63 => some (newFn 1 sp63)
  | 67 => some (newFn 1 sp67)
  | 68 => some (pureFn sp68)
  | 69 => some (pureFn sp69)
  | f => c25 cK f
theorem K69 {X : Ctx} (hX : X.intr 69 = some (pureFn sp69)) (la ha : AV) (l : List MA) (hs : List Pt) (err : Int) (hl : slV machC la = some l) (hh : slV ptC ha = some hs) (q : (l.all MA.ok && l.all fun m => m.suit hs err) = true) (h : Heap) : Cl X 69 [la, .agg [ha, .int .i64 err]] h (.ret (slN (natsV (whoN hs err l l.length))) h none) :=
  Cl.intr hX (by simp only [pureFn, AV.pur, AV.purL, sl_pur hl, sl_pur hh, Bool.and_self, if_true, sp69, hl, hh, q])
theorem K53b {X : Ctx} (hX : X.intr 53 = some (flatFn sp53)) {a b : AV} {l : List Nat} {h : Heap} (hb : Blt h a 1 (natsV l)) (hl : l.length ≤ maxL) (he : b = slN (natsV l)) : Cl X 53 [a, b] h (.ret (.bool true) h none) := by
  subst he
  have h1 : natsV l = (l.map fun k : Nat => (k : Int)).map intC.enc := by simp [natsV, intC]
  have v1 := hb.view (natsV_pur l)
  have v2 := (SeeV.of (slV_slN (c := intC) (l := l.map fun k : Nat => (k : Int)) (by simpa using hl)) h)
  obtain ⟨b', q1, q2⟩ := v2
  have q3 := slV_slN (c := intC) (l := l.map fun k : Nat => (k : Int)) (by simpa using hl)
  rw [← h1] at q1 q3
  have e : b' = slN (natsV l) := by
    have hp : (slN (natsV l)).pur = true := slN_pur (natsV_pur _)
    rw [view_pur hp] at q1
    exact (Option.some.inj q1).symm
  subst e
  exact Cl.intr hX (by simp [flatFn, viewVs, v1, q1, sp53, q3])
end Go.AM
set_option linter.unusedSectionVars false
set_option linter.unusedVariables false
set_option linter.unusedSimpArgs false
set_option maxRecDepth 100000
namespace Go.AM
open Go Go.Proofs
variable [Keep]
attribute [local irreducible] W WO WO1 WD WQ WT thenQ blockQ endR isRet retK Cl ClR
attribute [local irreducible] roundQ RdR clR boundsS machB boxL suitB MA.could MA.poss MA.suit MA.mach
set_option maxHeartbeats 8000000 in
theorem T15 (la ha : AV) (err : Int) (l : List MA) (hs : List Pt) (hl : isSl la (l.map machC.enc)) (hg : ∀ m ∈ l, m.good) (hh : isSl ha (hs.map ptC.enc)) :
    ClR (dX c15) 15 [la, .agg [ha, .int .i64 err]] emptyHp (isRet (.bool true)) := by
  have o1 := hl.out
  have o2 := hh.out
  have t1 := hl.tup
  have t2 := hh.tup
  have ln1 : lenS la = some l.length := by rw [hl.len, List.length_map]
  have k25 : ∀ h, Cl (dX c15) 25 [] h (.ret (.bool true) h none) := fun h => K25 rfl h
  have k54 := fun h => K54 (X := dX c15) rfl ha _ err hh (enc_pur ptC hs) h
  rw [List.length_map] at k54
  have ln2 : lenS ha = some hs.length := by rw [hh.len, List.length_map]
  simp only [isTuple] at t1 t2
  have hone : ha.one = true := by rcases hh with ⟨rfl | rfl, _⟩ | rfl <;> rfl
  by_cases g : decide ((l.length : Int) > 6) = false ∧ decide ((hs.length : Int) ≤ 6) = true
  · obtain ⟨ga, gb⟩ := g
    have g1 := ga
    have g2 := gb
    simp only [decide_eq_false_iff_not, decide_eq_true_eq] at g1 g2
    have v1 : slV machC la = some l := slV_mk hl (by unfold maxL; omega)
    have v2 : slV ptC ha = some hs := slV_mk hh (by unfold maxL; omega)
    have HV1 := Lib.hid v1
    have HV2 := Lib.hid v2
    have HG := Lib.hid hg
    have hmax := sl_max v1
    rw [gb] at k54
    clear hl hh hg g1 g2 v1 v2
    refine ClR.walk (c := _) rfl Tryz.func15 rfl (by kernel_rfl) rfl isRet_fail ?_
    simp only [entryEnv, Nat.reduceAdd, emptyHp]
    repeat' (first | refine goS ?_ | (apply U6; exact Z1; exact Z1; (focus (simp only [List.nil_append, List.append_nil]; first | exact k54 _)); simp only [pM, pN, rR, rP]) | refine go2 (fun hh => ?_) (fun hh => ?_) | fail)
    refine W.loopN l.length (fun k F => ∃ e, F = Fr.mk 15 false e (Mp.set .nil 3 (0, [ha, .int .i64 err])) ⟨0, .nil⟩ [] none ∧ (l.take k).all MA.thin = true ∧ e.get 0 = some la ∧ e.get 3 = some (.lptr 3 0 0) ∧ e.get 5 = some (.int .i64 ↑k) ∧ k ≤ l.length) ?_ ?_
    · refine ⟨_, rfl, ?_, ?_, ?_, ?_, ?_⟩ <;> first | exact Z2 | simp [go_sem, *]
    rintro k F ⟨e, rfl, hall, h0, h3, h5, hk⟩
    have HALL := Lib.hid hall
    clear hall
    by_cases hlt : k < l.length
    · obtain ⟨m, hm⟩ := get_some hlt
      have hmg := HG.out m (List.mem_of_getElem? hm)
      obtain ⟨c1, c2, p1, p2, n1, n2, t4, t5⟩ := MA.good_cells hmg
      have hix := fun h => mach_idx HV1.out hm ⟨by rw [c1]; rfl, by rw [c2]; rfl⟩ h
      have hd : decide ((k : Int) < (l.length : Int)) = true := by simpa using hlt
      have hw := wrap_succ hlt hmax
      have k38 : ∀ h, Cl (dX c15) 38 [machC.enc m] h (.ret (.bool m.thin) h none) := fun h => by
        obtain ⟨e1, e2⟩ := MA.good_thin hmg
        refine Cl.intr (g := pureFn sp38) rfl ?_
        simp only [pureFn, machC, AV.pur, AV.purL, m.ps.1, m.ps.2, Bool.and_self, if_true, sp38]
        rw [e1, e2]
        simp only [MA.thin, Option.getD_some]
      simp only [machC] at k38
      simp only [AV.cells] at c1 c2
      have hnt : (l.take (k + 1)).all MA.thin = m.thin := by rw [take_next hm, List.all_append, HALL.out]; simp
      have HNT := Lib.hid hnt
      clear hm hmg hnt
      cases hth : m.thin with
      | true =>
        rw [hth] at k38
        rw [hth] at HNT
        clear hth
        repeat' (first | refine goS ?_ | (apply U6; exact Z1; exact Z1; (focus (simp only [List.nil_append, List.append_nil]; first | exact k38 _)); simp only [pM, pN, rR, rP]) | refine go2 (fun hh => ?_) (fun hh => ?_) | fail)
        refine ⟨hlt, _, rfl, HNT.out, ?_, ?_, ?_, by omega⟩
        all_goals exact Z2
      | false =>
        rw [hth] at k38
        clear hth HNT
        repeat' (first | refine goS ?_ | (apply U6; exact Z1; exact Z1; (focus (simp only [List.nil_append, List.append_nil]; first | exact k38 _ | exact k25 _)); simp only [pM, pN, rR, rP]) | refine go2 (fun hh => ?_) (fun hh => ?_) | fail)
        all_goals simp only [resV_def (X := dX c15) Tryz.func15, Tryz.results15, resultsV, resultV, go_sem, *, Nat.reduceLT, Int.reduceEq, Int.reduceBEq, Int.reduceLE, Int.reduceLT, Nat.reduceAdd, Nat.reduceBEq, Nat.reduceEqDiff, reduceIte, Nat.reduceLeDiff, Nat.reduceMul, Nat.reduceSub, reduceCtorEq, frzRes, dFrz, frzCells, isRet_ret, tupleOf]
    · have hd : decide ((k : Int) < (l.length : Int)) = false := by simpa using hlt
      have hkl : k = l.length := by omega
      have hth := HALL.out
      rw [hkl, List.take_length] at hth
      have hok : l.all MA.ok = true := List.all_eq_true.2 fun m hm => MA.good_ok (HG.out m hm) (List.all_eq_true.1 hth m hm)
      have HOK := Lib.hid hok
      obtain ⟨w, ⟨an, am⟩, hc67, hbw, hx0⟩ := K67 (X := dX c15) rfl la ha l hs err ⟨0, .nil⟩ (.of HV1.out _) hok (.of HV2.out _) _ _ _ rfl rfl rfl
      have ow := hbw.out
      have tw := hbw.tup
      have cw := hbw.cells
      have lw := hbw.len
      simp only [AV.cells] at cw
      simp only [isTuple] at tw
      have HBW := Lib.hid hbw
      have HWI := Lib.hid (want_is hs err l)
      have HW69 := Lib.hid (fun (q : (l.all MA.ok && l.all fun m => m.suit hs err) = true) (h : Heap) => K69 (X := dX c15) rfl la ha l hs err HV1.out HV2.out q h)
      generalize hcode : (if (decide (1 ≤ l.length ∧ l.length ≤ 4) && l.all fun m => m.suit hs err) = true then (if l.all MA.poss = true then (0 : Int) else 7) else 2) = code at *
      have HCODE := Lib.hid hcode
      have HLW := Lib.hid lw
      clear hth hok hbw hx0 hcode hkl hlt hk lw
      have b20 : ((2 : Int) != 0) = true := rfl
      have b70 : ((7 : Int) != 0) = true := rfl
      have b00 : ((0 : Int) != 0) = false := rfl
      have b22 : ((2 : Int) != 2) = false := rfl
      have b77 : ((7 : Int) != 7) = false := rfl
      have bz0 : (((0 : Nat) : Int) != 0) = false := rfl
      have bz1 : (((0 : Nat) : Int) == 0) = true := rfl
      repeat' (first | (apply U6; exact Z1; exact Z1; (focus (exact hc67)); simp only [pM, pN, rR, rP]) | refine go1 ?_ | refine go2 (fun hh => ?_) (fun hh => ?_) | fail)
      refine W.loopN l.length (fun k F => ∃ e hp, F = Fr.mk 15 false e (Mp.set .nil 3 (0, [ha, .int .i64 err])) hp [] none ∧ HExt ⟨an, am⟩ hp ∧ e.get 0 = some la ∧ e.get 3 = some (.lptr 3 0 0) ∧ e.get 6 = some w ∧ e.get 7 = some (.int .i64 code) ∧ e.get 8 = some (.int .i64 (wantI hs err (l.take k))) ∧ e.get 9 = some (.int .i64 ↑k) ∧ k ≤ l.length) ?_ ?_
      · refine ⟨_, _, rfl, HExt.refl _, ?_, ?_, ?_, ?_, ?_, ?_, ?_⟩ <;> first | exact Z2 | simp [wantI, go_sem, *, Nat.reduceLT, Int.reduceEq, Int.reduceBEq, Int.reduceLE, Int.reduceLT, Nat.reduceAdd, Nat.reduceBEq, Nat.reduceEqDiff, reduceIte, Nat.reduceLeDiff, Nat.reduceMul, Nat.reduceSub, reduceCtorEq]
      clear h0 h3 h5 hc67 hd
      rintro k F ⟨e, ⟨qn, qm⟩, rfl, hxe, h0, h3, h6, h7, h8, h9, hk⟩
      have HXE := Lib.hid hxe
      clear hxe
      by_cases hlt : k < l.length
      · obtain ⟨m, hm⟩ := get_some hlt
        have hmem := List.mem_of_getElem? hm
        have hmo := List.all_eq_true.1 HOK.out m hmem
        obtain ⟨c1, c2⟩ := MA.cells hmo
        obtain ⟨q1, q2⟩ := MA.ok_is hmo
        have hix := fun h => mach_idx HV1.out hm ⟨by rw [c1]; rfl, by rw [c2]; rfl⟩ h
        have p1 := sl_out q1
        have p2 := sl_out q2
        have ln3 := sl_len q1
        obtain ⟨n4, t4⟩ := sl_one q1
        obtain ⟨n5, t5⟩ := sl_one q2
        have hd : decide ((k : Int) < (l.length : Int)) = true := by simpa using hlt
        have hw := wrap_succ hlt hmax
        have k40 : ∀ h, Cl (dX c15) 40 [machC.enc m] h (.ret (.int .i64 (ableI m.mach m.poss)) h none) := fun h => Cl.intr (g := pureFn sp40) rfl (by
          simp only [pureFn, machC, AV.pur, AV.purL, m.ps.1, m.ps.2, Bool.and_self, if_true, sp40, q1, q2]
          simp only [MA.mach, MA.poss, possB])
        have k51 := fun h => K51 (X := dX c15) rfl ha hs err HV2.out h
        have hle : ((m.stops.length : Int) != (hs.length : Int)) = !decide (hs.length = m.stops.length) := by
          rw [Bool.eq_iff_iff]
          simp
          omega
        obtain ⟨v, ⟨zn, zm⟩, hc63, hbv, hx⟩ := K63 (X := dX c15) rfl m.sa m.ra ha m.stops hs m.rdgs m.cx m.cy m.wx m.wy err ⟨qn, qm⟩ (.of q1 _) (.of q2 _) (.of HV2.out _) (m.suit hs err) m.poss (m.could hs err) (by unfold MA.suit MA.mach; rfl) (by unfold MA.poss; rfl) (by unfold MA.could; rfl)
        have hxz : HExt ⟨an, am⟩ ⟨zn, zm⟩ := HXE.out.trans hx
        have HXZ := Lib.hid hxz
        have ov := hbv.out
        have cv := hbv.cells
        have tv := hbv.tup
        have lv := hbv.len
        simp only [AV.cells] at cv c1 c2
        simp only [isTuple] at tv
        simp only [machC] at k40
        have hnx := want_next (hs := hs) (err := err) hm
        have hone' : oneI hs err m = if m.suit hs err then (if m.poss then 0 else 7) else 2 := rfl
        rw [hone'] at hnx
        have HNX := Lib.hid hnx
        have HSU := Lib.hid (suit_parts hs err m)
        generalize hwk : wantI hs err (l.take k) = wk at *
        have HK68 := Lib.hid (fun (q : m.suit hs err = true) (h : Heap) => by have := K68 (X := dX c15) rfl m ha hs err hmo HV2.out q h; simp only [machC] at this; exact this)
        have HBV := Lib.hid hbv
        have HLC := Lib.hid (show (m.could hs err).length ≤ maxL by
          have := couldN_len (fun n => (boxL err m.stops hs).any (canB m.cx m.cy m.wx m.wy m.rdgs n)) 12
          unfold MA.could maxL; omega)
        clear hmem hmo q1 q2 hm hx hxz hnx hone' hbv hwk
        have hcase : (butB hs err = false ∧ m.suit hs err = false) ∨ (butB hs err = true ∧ m.mach = false ∧ m.suit hs err = false) ∨ (butB hs err = true ∧ m.mach = true ∧ decide (hs.length = m.stops.length) = false ∧ m.suit hs err = false) ∨ (butB hs err = true ∧ m.mach = true ∧ decide (hs.length = m.stops.length) = true ∧ m.suit hs err = true) := by
          rw [HSU.out]
          cases butB hs err <;> cases m.mach <;> cases decide (hs.length = m.stops.length) <;> simp
        rcases hcase with ⟨c1', su⟩ | ⟨c1', c2', su⟩ | ⟨c1', c2', c3', su⟩ | ⟨c1', c2', c3', su⟩
        · rw [c1'] at k51
          rw [su] at hc63 lv HNX
          simp only [Bool.false_eq_true, if_false, Bool.false_and, List.length_nil] at hc63 lv HNX
          generalize ableI m.mach m.poss = ab at *
          clear c1' su HSU HK68 HBV hle
          repeat' (first | (refine WO1.gux rfl rfl ?_ ?_; exact Z2; simp only [pM, pN, rR, rP]) | (apply W.drawQ (id := 14) (l1 := [0, 1, 2, 3, 4, 5, 6, 7, 8, 9, 10, 11, 12, 13, 14, 15, 16, 17, 18]) (l2 := []); kernel_rfl; kernel_rfl; kernel_rfl; exact Z4) | (apply W.drawQ (id := 20) (l1 := [0, 1, 2, 3, 4, 5, 6, 7, 8, 9, 10, 11, 12]) (l2 := []); kernel_rfl; kernel_rfl; kernel_rfl; exact Z4) | (apply W.draw (id := 16) (lc := [0, 1, 2, 3, 4, 5, 6, 7, 8, 9, 10]) (hot := []); kernel_rfl; kernel_rfl; kernel_rfl; exact Z4) | (apply WD.cons (o := ⟨some 79, _, _, _, _, none⟩); exact rfl; exact rfl) | (apply WD.cons (o := ⟨some 11, _, _, _, _, none⟩); exact rfl; exact rfl) | (apply WD.cons (o := ⟨some 12, _, _, _, _, none⟩); exact rfl; exact rfl) | (refine WD.cons rfl rfl ?_) | (refine WD.nil ⟨?_, ?_⟩; rotate_left; simp only [tN, bN, eN, true_and]) | (refine calmR rfl rfl rfl rfl rfl ?_ ?_; (focus (first | exact Z2 | exact Z1))) | (refine calmE rfl rfl rfl rfl rfl ?_ ?_; (focus (first | exact Z2 | exact Z1))) | (with_reducible refine calmEnd) | (apply U6; exact Z1; exact Z1; (focus (exact hc63)); simp only [pM, pN, rR, rP]) | refine go1 ?_ | (apply U6; exact Z1; exact Z1; (focus (simp only [List.nil_append, List.append_nil]; first | exact k40 _ | exact k51 _)); simp only [pM, pN, rR, rP]) | refine go2 (fun hh => ?_) (fun hh => ?_) | fail)
          refine ⟨hlt, _, _, rfl, HXZ.out, ?_, ?_, ?_, ?_, ?_, ?_, by omega⟩
          all_goals first | exact Z2 | (rw [HNX.out]; simp only [stepW, go_sem, *, Nat.reduceLT, Int.reduceEq, Int.reduceBEq, Int.reduceLE, Int.reduceLT, Nat.reduceAdd, Nat.reduceBEq, Nat.reduceEqDiff, reduceIte, Nat.reduceLeDiff, Nat.reduceMul, Nat.reduceSub, reduceCtorEq]; done) | (rw [HNX.out]; simp only [stepW, go_sem, *, Nat.reduceLT, Int.reduceEq, Int.reduceBEq, Int.reduceLE, Int.reduceLT, Nat.reduceAdd, Nat.reduceBEq, Nat.reduceEqDiff, reduceIte, Nat.reduceLeDiff, Nat.reduceMul, Nat.reduceSub, reduceCtorEq]; simp)
        · rw [c1'] at k51
          rw [c2'] at k40
          rw [su] at hc63 lv HNX
          simp only [Bool.false_eq_true, if_false, Bool.false_and, List.length_nil, ableI] at hc63 lv HNX k40
          clear c1' c2' su HSU HK68 HBV hle
          repeat' (first | (refine WO1.gux rfl rfl ?_ ?_; exact Z2; simp only [pM, pN, rR, rP]) | (apply W.drawQ (id := 14) (l1 := [0, 1, 2, 3, 4, 5, 6, 7, 8, 9, 10, 11, 12, 13, 14, 15, 16, 17, 18]) (l2 := []); kernel_rfl; kernel_rfl; kernel_rfl; exact Z4) | (apply W.drawQ (id := 20) (l1 := [0, 1, 2, 3, 4, 5, 6, 7, 8, 9, 10, 11, 12]) (l2 := []); kernel_rfl; kernel_rfl; kernel_rfl; exact Z4) | (apply W.draw (id := 16) (lc := [0, 1, 2, 3, 4, 5, 6, 7, 8, 9, 10]) (hot := []); kernel_rfl; kernel_rfl; kernel_rfl; exact Z4) | (apply WD.cons (o := ⟨some 79, _, _, _, _, none⟩); exact rfl; exact rfl) | (apply WD.cons (o := ⟨some 11, _, _, _, _, none⟩); exact rfl; exact rfl) | (apply WD.cons (o := ⟨some 12, _, _, _, _, none⟩); exact rfl; exact rfl) | (refine WD.cons rfl rfl ?_) | (refine WD.nil ⟨?_, ?_⟩; rotate_left; simp only [tN, bN, eN, true_and]) | (refine calmR rfl rfl rfl rfl rfl ?_ ?_; (focus (first | exact Z2 | exact Z1))) | (refine calmE rfl rfl rfl rfl rfl ?_ ?_; (focus (first | exact Z2 | exact Z1))) | (with_reducible refine calmEnd) | (apply U6; exact Z1; exact Z1; (focus (exact hc63)); simp only [pM, pN, rR, rP]) | refine go1 ?_ | (apply U6; exact Z1; exact Z1; (focus (simp only [List.nil_append, List.append_nil]; first | exact k40 _ | exact k51 _)); simp only [pM, pN, rR, rP]) | refine go2 (fun hh => ?_) (fun hh => ?_) | fail)
          refine ⟨hlt, _, _, rfl, HXZ.out, ?_, ?_, ?_, ?_, ?_, ?_, by omega⟩
          all_goals first | exact Z2 | (rw [HNX.out]; simp only [stepW, go_sem, *, Nat.reduceLT, Int.reduceEq, Int.reduceBEq, Int.reduceLE, Int.reduceLT, Nat.reduceAdd, Nat.reduceBEq, Nat.reduceEqDiff, reduceIte, Nat.reduceLeDiff, Nat.reduceMul, Nat.reduceSub, reduceCtorEq]; done) | (rw [HNX.out]; simp only [stepW, go_sem, *, Nat.reduceLT, Int.reduceEq, Int.reduceBEq, Int.reduceLE, Int.reduceLT, Nat.reduceAdd, Nat.reduceBEq, Nat.reduceEqDiff, reduceIte, Nat.reduceLeDiff, Nat.reduceMul, Nat.reduceSub, reduceCtorEq]; simp)
        · rw [c1'] at k51
          rw [c2'] at k40
          rw [c3'] at hle
          rw [su] at hc63 lv HNX
          simp only [Bool.false_eq_true, if_false, Bool.false_and, List.length_nil, ableI, if_true, Bool.not_false] at hc63 lv HNX k40 hle
          clear c1' c2' c3' su HSU HK68 HBV
          cases hpo : m.poss
          all_goals (
            rw [hpo] at k40
            simp only [Bool.false_eq_true, if_false, if_true] at k40
            clear hpo
            repeat' (first | (refine WO1.gux rfl rfl ?_ ?_; exact Z2; simp only [pM, pN, rR, rP]) | (apply W.drawQ (id := 14) (l1 := [0, 1, 2, 3, 4, 5, 6, 7, 8, 9, 10, 11, 12, 13, 14, 15, 16, 17, 18]) (l2 := []); kernel_rfl; kernel_rfl; kernel_rfl; exact Z4) | (apply W.drawQ (id := 20) (l1 := [0, 1, 2, 3, 4, 5, 6, 7, 8, 9, 10, 11, 12]) (l2 := []); kernel_rfl; kernel_rfl; kernel_rfl; exact Z4) | (apply W.draw (id := 16) (lc := [0, 1, 2, 3, 4, 5, 6, 7, 8, 9, 10]) (hot := []); kernel_rfl; kernel_rfl; kernel_rfl; exact Z4) | (apply WD.cons (o := ⟨some 79, _, _, _, _, none⟩); exact rfl; exact rfl) | (apply WD.cons (o := ⟨some 11, _, _, _, _, none⟩); exact rfl; exact rfl) | (apply WD.cons (o := ⟨some 12, _, _, _, _, none⟩); exact rfl; exact rfl) | (refine WD.cons rfl rfl ?_) | (refine WD.nil ⟨?_, ?_⟩; rotate_left; simp only [tN, bN, eN, true_and]) | (refine calmR rfl rfl rfl rfl rfl ?_ ?_; (focus (first | exact Z2 | exact Z1))) | (refine calmE rfl rfl rfl rfl rfl ?_ ?_; (focus (first | exact Z2 | exact Z1))) | (with_reducible refine calmEnd) | (apply U6; exact Z1; exact Z1; (focus (exact hc63)); simp only [pM, pN, rR, rP]) | refine go1 ?_ | (apply U6; exact Z1; exact Z1; (focus (simp only [List.nil_append, List.append_nil]; first | exact k40 _ | exact k51 _)); simp only [pM, pN, rR, rP]) | refine go2 (fun hh => ?_) (fun hh => ?_) | fail)
            refine ⟨hlt, _, _, rfl, HXZ.out, ?_, ?_, ?_, ?_, ?_, ?_, by omega⟩
            all_goals first | exact Z2 | (rw [HNX.out]; simp only [stepW, go_sem, *, Nat.reduceLT, Int.reduceEq, Int.reduceBEq, Int.reduceLE, Int.reduceLT, Nat.reduceAdd, Nat.reduceBEq, Nat.reduceEqDiff, reduceIte, Nat.reduceLeDiff, Nat.reduceMul, Nat.reduceSub, reduceCtorEq]; done) | (rw [HNX.out]; simp only [stepW, go_sem, *, Nat.reduceLT, Int.reduceEq, Int.reduceBEq, Int.reduceLE, Int.reduceLT, Nat.reduceAdd, Nat.reduceBEq, Nat.reduceEqDiff, reduceIte, Nat.reduceLeDiff, Nat.reduceMul, Nat.reduceSub, reduceCtorEq]; simp))
        · have HK68 := Lib.hid (HK68.out su)
          rw [c1'] at k51
          rw [c2'] at k40
          rw [c3'] at hle
          rw [su] at hc63 lv HNX HBV
          simp only [ableI, if_true, Bool.not_true, Bool.true_and] at hc63 lv HNX HBV k40 hle
          clear c1' c2' c3' su HSU
          cases hpo : m.poss with
          | false =>
            rw [hpo] at k40 hc63 lv HNX
            simp only [Bool.false_eq_true, if_false, List.length_nil] at k40 hc63 lv HNX
            clear hpo HK68 HBV
            cases hwk : (wk == 0)
            all_goals (
              have HWK := Lib.hid hwk
              repeat' (first | (refine WO1.gux rfl rfl ?_ ?_; exact Z2; simp only [pM, pN, rR, rP]) | (apply W.drawQ (id := 14) (l1 := [0, 1, 2, 3, 4, 5, 6, 7, 8, 9, 10, 11, 12, 13, 14, 15, 16, 17, 18]) (l2 := []); kernel_rfl; kernel_rfl; kernel_rfl; exact Z4) | (apply W.drawQ (id := 20) (l1 := [0, 1, 2, 3, 4, 5, 6, 7, 8, 9, 10, 11, 12]) (l2 := []); kernel_rfl; kernel_rfl; kernel_rfl; exact Z4) | (apply W.draw (id := 16) (lc := [0, 1, 2, 3, 4, 5, 6, 7, 8, 9, 10]) (hot := []); kernel_rfl; kernel_rfl; kernel_rfl; exact Z4) | (apply WD.cons (o := ⟨some 79, _, _, _, _, none⟩); exact rfl; exact rfl) | (apply WD.cons (o := ⟨some 11, _, _, _, _, none⟩); exact rfl; exact rfl) | (apply WD.cons (o := ⟨some 12, _, _, _, _, none⟩); exact rfl; exact rfl) | (refine WD.cons rfl rfl ?_) | (refine WD.nil ⟨?_, ?_⟩; rotate_left; simp only [tN, bN, eN, true_and]) | (refine calmR rfl rfl rfl rfl rfl ?_ ?_; (focus (first | exact Z2 | exact Z1))) | (refine calmE rfl rfl rfl rfl rfl ?_ ?_; (focus (first | exact Z2 | exact Z1))) | (with_reducible refine calmEnd) | (apply U6; exact Z1; exact Z1; (focus (exact hc63)); simp only [pM, pN, rR, rP]) | refine go1 ?_ | (apply U6; exact Z1; exact Z1; (focus (simp only [List.nil_append, List.append_nil]; first | exact k40 _ | exact k51 _)); simp only [pM, pN, rR, rP]) | refine go2 (fun hh => ?_) (fun hh => ?_) | fail)
              refine ⟨hlt, _, _, rfl, HXZ.out, ?_, ?_, ?_, ?_, ?_, ?_, by omega⟩
              all_goals first | exact Z2 | (rw [HNX.out]; simp only [stepW, go_sem, *, Nat.reduceLT, Int.reduceEq, Int.reduceBEq, Int.reduceLE, Int.reduceLT, Nat.reduceAdd, Nat.reduceBEq, Nat.reduceEqDiff, reduceIte, Nat.reduceLeDiff, Nat.reduceMul, Nat.reduceSub, reduceCtorEq]; done) | (rw [HNX.out]; simp only [stepW, go_sem, *, Nat.reduceLT, Int.reduceEq, Int.reduceBEq, Int.reduceLE, Int.reduceLT, Nat.reduceAdd, Nat.reduceBEq, Nat.reduceEqDiff, reduceIte, Nat.reduceLeDiff, Nat.reduceMul, Nat.reduceSub, reduceCtorEq]; simp))
          | true =>
            rw [hpo] at k40 hc63 lv HNX HBV
            simp only [if_true] at k40 hc63 lv HNX HBV
            have HK53 := Lib.hid (K53b (X := dX c15) rfl HBV.out HLC.out rfl)
            have os := (slN_is (natsV (m.could hs err))).out
            have ts := (slN_is (natsV (m.could hs err))).tup
            clear hpo HBV
            repeat' (first | (refine WO1.gux rfl rfl ?_ ?_; exact Z2; simp only [pM, pN, rR, rP]) | (apply W.drawQ (id := 14) (l1 := [0, 1, 2, 3, 4, 5, 6, 7, 8, 9, 10, 11, 12, 13, 14, 15, 16, 17, 18]) (l2 := []); kernel_rfl; kernel_rfl; kernel_rfl; exact Z4) | (apply W.drawQ (id := 20) (l1 := [0, 1, 2, 3, 4, 5, 6, 7, 8, 9, 10, 11, 12]) (l2 := []); kernel_rfl; kernel_rfl; kernel_rfl; exact Z4) | (apply W.draw (id := 16) (lc := [0, 1, 2, 3, 4, 5, 6, 7, 8, 9, 10]) (hot := []); kernel_rfl; kernel_rfl; kernel_rfl; exact Z4) | (apply WD.cons (o := ⟨some 79, _, _, _, _, none⟩); exact rfl; exact rfl) | (apply WD.cons (o := ⟨some 11, _, _, _, _, none⟩); exact rfl; exact rfl) | (apply WD.cons (o := ⟨some 12, _, _, _, _, none⟩); exact rfl; exact rfl) | (refine WD.cons rfl rfl ?_) | (refine WD.nil ⟨?_, ?_⟩; rotate_left; simp only [tN, bN, eN, true_and]) | (refine calmR rfl rfl rfl rfl rfl ?_ ?_; (focus (first | exact Z2 | exact Z1))) | (refine calmE rfl rfl rfl rfl rfl ?_ ?_; (focus (first | exact Z2 | exact Z1))) | (with_reducible refine calmEnd) | (apply U6; exact Z1; exact Z1; (focus (exact hc63)); simp only [pM, pN, rR, rP]) | refine go1 ?_ | (apply U6; exact Z1; exact Z1; (focus (simp only [List.nil_append, List.append_nil]; first | exact k40 _ | exact k51 _ | exact HK68.out _ | exact HK53.out)); simp only [pM, pN, rR, rP]) | refine go2 (fun hh => ?_) (fun hh => ?_) | fail)
            refine ⟨hlt, _, _, rfl, HXZ.out, ?_, ?_, ?_, ?_, ?_, ?_, by omega⟩
            all_goals first | exact Z2 | (rw [HNX.out]; simp only [stepW, go_sem, *, Nat.reduceLT, Int.reduceEq, Int.reduceBEq, Int.reduceLE, Int.reduceLT, Nat.reduceAdd, Nat.reduceBEq, Nat.reduceEqDiff, reduceIte, Nat.reduceLeDiff, Nat.reduceMul, Nat.reduceSub, reduceCtorEq]; done) | (rw [HNX.out]; simp only [stepW, go_sem, *, Nat.reduceLT, Int.reduceEq, Int.reduceBEq, Int.reduceLE, Int.reduceLT, Nat.reduceAdd, Nat.reduceBEq, Nat.reduceEqDiff, reduceIte, Nat.reduceLeDiff, Nat.reduceMul, Nat.reduceSub, reduceCtorEq]; simp)
      · have hd : decide ((k : Int) < (l.length : Int)) = false := by simpa using hlt
        have hkl : k = l.length := by omega
        have hwf := HWI.out
        rw [hkl, List.take_length] at h8
        have hcase : (((l.length : Int) == 0) = true ∧ code = 2) ∨ (((l.length : Int) == 0) = false ∧ decide ((l.length : Int) > 4) = true ∧ code = 2) ∨ (((l.length : Int) == 0) = false ∧ decide ((l.length : Int) > 4) = false ∧ code = wantI hs err l) := by
          have hcd := HCODE.out
          by_cases z0 : l.length = 0
          · refine .inl ⟨by simp [z0], ?_⟩
            rw [← hcd, if_neg (by simp [z0])]
          · have z1 : ((l.length : Int) == 0) = false := by
              rw [beq_eq_false_iff_ne]; omega
            by_cases z4 : l.length > 4
            · refine .inr (.inl ⟨z1, by simp only [decide_eq_true_eq]; omega, ?_⟩)
              rw [← hcd, if_neg (by
                have : decide (1 ≤ l.length ∧ l.length ≤ 4) = false := by simp only [decide_eq_false_iff_not]; omega
                rw [this]; simp)]
            · refine .inr (.inr ⟨z1, by simp only [decide_eq_false_iff_not]; omega, ?_⟩)
              have : decide (1 ≤ l.length ∧ l.length ≤ 4) = true := by simp only [decide_eq_true_eq]; omega
              rw [← hcd, hwf, this]
              simp
        have hno : code ≠ 0 → lenS w = some 0 := by
          intro hc
          rw [HLW.out]
          rw [if_neg]
          · rfl
          · intro q
            rw [Bool.and_eq_true] at q
            apply hc
            rw [← HCODE.out, if_pos q.1, if_pos q.2]
        clear hkl hlt hk
        rcases hcase with ⟨z0, rfl⟩ | ⟨z0, z4, rfl⟩ | ⟨z0, z4, hcw⟩
        · have lw := hno (by decide)
          clear hno hwf HCODE
          generalize wantI hs err l = wk at *
          repeat' (first | refine goS ?_ | (apply U6; exact Z1; exact Z1; (focus (simp only [List.nil_append, List.append_nil]; first | exact k25 _)); simp only [pM, pN, rR, rP]) | refine go2 (fun hh => ?_) (fun hh => ?_) | fail)
          all_goals simp only [resV_def (X := dX c15) Tryz.func15, Tryz.results15, resultsV, resultV, go_sem, *, Nat.reduceLT, Int.reduceEq, Int.reduceBEq, Int.reduceLE, Int.reduceLT, Nat.reduceAdd, Nat.reduceBEq, Nat.reduceEqDiff, reduceIte, Nat.reduceLeDiff, Nat.reduceMul, Nat.reduceSub, reduceCtorEq, frzRes, dFrz, frzCells, isRet_ret, tupleOf]
        · have lw := hno (by decide)
          clear hno hwf HCODE
          generalize wantI hs err l = wk at *
          repeat' (first | refine goS ?_ | (apply U6; exact Z1; exact Z1; (focus (simp only [List.nil_append, List.append_nil]; first | exact k25 _)); simp only [pM, pN, rR, rP]) | refine go2 (fun hh => ?_) (fun hh => ?_) | fail)
          all_goals simp only [resV_def (X := dX c15) Tryz.func15, Tryz.results15, resultsV, resultV, go_sem, *, Nat.reduceLT, Int.reduceEq, Int.reduceBEq, Int.reduceLE, Int.reduceLT, Nat.reduceAdd, Nat.reduceBEq, Nat.reduceEqDiff, reduceIte, Nat.reduceLeDiff, Nat.reduceMul, Nat.reduceSub, reduceCtorEq, frzRes, dFrz, frzCells, isRet_ret, tupleOf]
        · rw [← hcw] at h8
          by_cases hc0 : code = 0
          · have hAB : (decide (1 ≤ l.length ∧ l.length ≤ 4) && l.all fun m => m.suit hs err) = true ∧ l.all MA.poss = true := by
              have hcd := HCODE.out
              rw [hc0] at hcd
              split at hcd
              · rename_i qa
                split at hcd
                · rename_i qb; exact ⟨qa, qb⟩
                · cases hcd
              · cases hcd
            have q69 := HW69.out (by
              rw [Bool.and_eq_true] at hAB ⊢
              exact ⟨HOK.out, hAB.1.2⟩)
            have HK69 := Lib.hid q69
            have hbw := HBW.out
            rw [hAB.1, hAB.2] at hbw
            simp only [Bool.and_self, if_true] at hbw
            have HK53 := Lib.hid (K53b (X := dX c15) rfl (hbw.ext HXE.out) (by have := whoN_len hs err l l.length; omega) rfl)
            have os := (slN_is (natsV (whoN hs err l l.length))).out
            have ts := (slN_is (natsV (whoN hs err l l.length))).tup
            subst hc0
            clear hno hwf HCODE hcw hAB q69 hbw
            generalize slN (natsV (whoN hs err l l.length)) = sw at *
            repeat' (first | refine goS ?_ | (apply U6; exact Z1; exact Z1; (focus (simp only [List.nil_append, List.append_nil]; first | exact HK69.out _ | exact HK53.out | exact k25 _)); simp only [pM, pN, rR, rP]) | refine go2 (fun hh => ?_) (fun hh => ?_) | fail)
            all_goals simp only [resV_def (X := dX c15) Tryz.func15, Tryz.results15, resultsV, resultV, go_sem, *, Nat.reduceLT, Int.reduceEq, Int.reduceBEq, Int.reduceLE, Int.reduceLT, Nat.reduceAdd, Nat.reduceBEq, Nat.reduceEqDiff, reduceIte, Nat.reduceLeDiff, Nat.reduceMul, Nat.reduceSub, reduceCtorEq, frzRes, dFrz, frzCells, isRet_ret, tupleOf]
          · have lw := hno hc0
            have x1 : (code != 0) = true := by simpa using hc0
            have x2 : (code == code) = true := by simp
            clear hno hwf HCODE hcw
            repeat' (first | refine goS ?_ | (apply U6; exact Z1; exact Z1; (focus (simp only [List.nil_append, List.append_nil]; first | exact k25 _)); simp only [pM, pN, rR, rP]) | refine go2 (fun hh => ?_) (fun hh => ?_) | fail)
            all_goals simp only [resV_def (X := dX c15) Tryz.func15, Tryz.results15, resultsV, resultV, go_sem, *, Nat.reduceLT, Int.reduceEq, Int.reduceBEq, Int.reduceLE, Int.reduceLT, Nat.reduceAdd, Nat.reduceBEq, Nat.reduceEqDiff, reduceIte, Nat.reduceLeDiff, Nat.reduceMul, Nat.reduceSub, reduceCtorEq, frzRes, dFrz, frzCells, isRet_ret, tupleOf]
  · have hcase : decide ((l.length : Int) > 6) = true ∨ (decide ((l.length : Int) > 6) = false ∧ decide ((hs.length : Int) ≤ 6) = false) := by
      cases q : decide ((l.length : Int) > 6) with
      | true => exact .inl rfl
      | false => exact .inr ⟨rfl, by rw [Bool.eq_false_iff]; intro q2; exact g ⟨q, q2⟩⟩
    clear g hl hh hg
    generalize decide ((hs.length : Int) ≤ 6) = dh at *
    refine ClR.walk (c := _) rfl Tryz.func15 rfl (by kernel_rfl) rfl isRet_fail ?_
    simp only [entryEnv, Nat.reduceAdd, emptyHp]
    rcases hcase with y1 | ⟨y1, rfl⟩
    all_goals (
      repeat' (first | refine goS ?_ | (apply U6; exact Z1; exact Z1; (focus (simp only [List.nil_append, List.append_nil]; first | exact k54 _ | exact k25 _)); simp only [pM, pN, rR, rP]) | refine go2 (fun hh => ?_) (fun hh => ?_) | fail)
      all_goals simp only [resV_def (X := dX c15) Tryz.func15, Tryz.results15, resultsV, resultV, go_sem, *, Nat.reduceLT, Int.reduceEq, Int.reduceBEq, Int.reduceLE, Int.reduceLT, Nat.reduceAdd, Nat.reduceBEq, Nat.reduceEqDiff, reduceIte, Nat.reduceLeDiff, Nat.reduceMul, Nat.reduceSub, reduceCtorEq, frzRes, dFrz, frzCells, isRet_ret, tupleOf])
end Go.AM
