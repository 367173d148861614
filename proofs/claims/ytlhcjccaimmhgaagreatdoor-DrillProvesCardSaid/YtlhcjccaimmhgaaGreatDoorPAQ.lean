/-
  Texts of the proof: an evaluator of the program's code, its soundness, contracts of functions.
-/
import Derived.Test.YtlhcjccaimmhgaaGreatDoorPAP
import Derived.Test.YtlhcjccaimmhgaaGreatDoorPAN
set_option linter.unusedSectionVars false
set_option linter.unusedVariables false
set_option linter.unusedSimpArgs false
set_option maxRecDepth 100000
namespace Go.AM
open Go Go.Proofs
variable [Keep]
attribute [local irreducible] W WO WO1 WD WQ WT thenQ blockQ endR isRet retK Cl ClR
attribute [local irreducible] roundQ RdR clR boundsS machB boxL suitB bothV axisV refBoxes
theorem prv_take {f : Bx → Option Bx} {l : List Bx} {k : Nat} {y : Bx} (h : l[k]? = some y) : prvL f (l.take (k + 1)) = prvStep f (prvL f (l.take k)) y := by
  unfold prvL
  rw [take_next h, List.foldl_append]
  rfl
def prvR (s : Option Bx) : AV := match s with | some b => .tuple [spC.enc b.x, spC.enc b.y, .bool true] | none => .tuple [.agg [.int .i64 0, .int .i64 0], .agg [.int .i64 0, .int .i64 0], .bool false]
theorem prvR_pur (s : Option Bx) : (prvR s).pur = true := by cases s <;> rfl
def sp56 : List AV → Option AV
  | [.agg [sa, .int .i64 cxl, .int .i64 cxh, .int .i64 cyl, .int .i64 cyh, .int .i64 wxl, .int .i64 wxh, .int .i64 wyl, .int .i64 wyh, ra], .agg [ha, .int .i64 err], .int .i64 at_, .int .i64 blank] => match slV ptC sa, slV rdgC ra, slV ptC ha with
    | some ss, some rs, some hs => if (suitB (machB ss ⟨cxl, cxh⟩ ⟨cyl, cyh⟩ ⟨wxl, wxh⟩ ⟨wyl, wyh⟩ rs) ss hs err && inB at_ 1 12 && inB blank 0 12) = true then
        some (prvR (prvL (heldAt ⟨cxl, cxh⟩ ⟨cyl, cyh⟩ ⟨wxl, wxh⟩ ⟨wyl, wyh⟩ rs at_.toNat blank.toNat) (boxL err ss hs))) else none
    | _, _, _ => none
  | _ => none
theorem p56 : ∀ args v, sp56 args = some v → v.pur = true := by
  intro args v h
  unfold sp56 at h
  split at h
  · split at h
    · split at h
      · have h := Option.some.inj h
        subst h
        exact prvR_pur _
      · cases h
    · cases h
  · cases h
set_option maxHeartbeats 8000000 in
theorem F56 : IntrFn Tryz.prog 56 (pureFn sp56) := by
  refine pure_fn (X := dX cHT) cHT_sound p56 ?_
  intro args v h
  unfold sp56 at h
  split at h
  · rename_i sa cxl cxh cyl cyh wxl wxh wyl wyh ra ha err at_ blank
    split at h
    · rename_i ss rs hs hl hr hh
      split at h
      · rename_i hc0
        have h := Option.some.inj h
        subst h
        simp only [Bool.and_eq_true] at hc0
        obtain ⟨⟨hc, q2⟩, q3⟩ := hc0
        obtain ⟨n, rfl, hn⟩ : ∃ n : Nat, at_ = n ∧ n ≤ 12 := by
          simp only [inB, Bool.and_eq_true, decide_eq_true_eq] at q2
          exact ⟨at_.toNat, by omega, by omega⟩
        obtain ⟨j, rfl, hj⟩ : ∃ j : Nat, blank = j ∧ j ≤ 12 := by
          simp only [inB, Bool.and_eq_true, decide_eq_true_eq] at q3
          exact ⟨blank.toNat, by omega, by omega⟩
        simp only [Int.toNat_natCast]
        obtain ⟨hmb, _, hsl, hn2, hn4, hr4⟩ := suit_small hc
        have o1 := sl_out hh
        have o2 := sl_out hl
        have o3 := sl_out hr
        obtain ⟨one1, t1⟩ := sl_one hh
        obtain ⟨one2, t2⟩ := sl_one hl
        obtain ⟨one3, t3⟩ := sl_one hr
        have b109 := fun hp => K109 (X := dX cHT) rfl sa ra ha ss hs rs ⟨cxl, cxh⟩ ⟨cyl, cyh⟩ ⟨wxl, wxh⟩ ⟨wyl, wyh⟩ err hl hr hh ⟨hsl, by omega, hn4⟩ hp
        have m106 := fun hp => K106 (X := dX cHT) rfl sa ra ss rs ⟨cxl, cxh⟩ ⟨cyl, cyh⟩ ⟨wxl, wxh⟩ ⟨wyl, wyh⟩ hl hr hp
        have hbd := (any_ref hc fun _ => true).2
        have hbl : (refBoxes err ss hs 8).length ≤ 192 := refBoxes_lenB err hn4 8
        have hdd : prvL (heldAt ⟨cxl, cxh⟩ ⟨cyl, cyh⟩ ⟨wxl, wxh⟩ ⟨wyl, wyh⟩ rs n j) (boxL err ss hs) = prvL (heldAt ⟨cxl, cxh⟩ ⟨cyl, cyh⟩ ⟨wxl, wxh⟩ ⟨wyl, wyh⟩ rs n j) (refBoxes err ss hs 8) := by
          obtain ⟨h1, h2, h3, h4, h5⟩ := suit_pts hc
          rw [refBoxes_dd h1 h2 h3 h4 h5, prv_dd0]
        rw [hdd]
        have w120 := fun (y : Bx) hp => K120 (X := dX cHT) rfl _ _ 0 n y (slH_marks hr) (by simp [marksOf]; omega) hp
        have b105 : ∀ (y : Bx), BdB y → ∃ a b, outV (some a) = some a ∧ outV (some b) = some b ∧ isTuple a = false ∧ isTuple b = false ∧ (∀ s, heldAt ⟨cxl, cxh⟩ ⟨cyl, cyh⟩ ⟨wxl, wxh⟩ ⟨wyl, wyh⟩ rs n j y = some s → ∃ la lb : List Sp, a = .vslice (la.map spC.enc) ∧ b = .vslice (lb.map spC.enc) ∧ la[j]? = some s.x ∧ lb[j]? = some s.y) ∧
            ∀ hp, Cl (dX cHT) 105 [.agg [sa, .int .i64 cxl, .int .i64 cxh, .int .i64 cyl, .int .i64 cyh, .int .i64 wxl, .int .i64 wxh, .int .i64 wyl, .int .i64 wyh, ra], slN ((marksOf rs ++ [Held.mk n y.x y.y]).map heldC.enc)] hp (.ret (.tuple [a, b, .bool (heldAt ⟨cxl, cxh⟩ ⟨cyl, cyh⟩ ⟨wxl, wxh⟩ ⟨wyl, wyh⟩ rs n j y).isSome]) hp none) := by
          intro y hy
          have hm : ∀ m ∈ [Held.mk n y.x y.y], HeldOk m := fun m q => by
            simp only [List.mem_singleton] at q
            subst q
            exact held_box hn hy
          obtain ⟨a, b, e, q1, q2, q3, q4, q5, q6⟩ := bothV_held hmb hm
          refine ⟨a, b, q1, q2, q3, q4, fun s hs => ?_, fun hp => ?_⟩
          · obtain ⟨la, lb, _, e2, e3⟩ := kn_held hj hs
            unfold heldAt at hs
            split at hs
            · rename_i la lb ha hb
              have hs := Option.some.inj hs
              subst hs
              have l1 := boundsS_len ha
              have l2 := boundsS_len hb
              exact ⟨la, lb, q5 la ha, q6 lb hb, by simp [List.getD, List.getElem?_eq_getElem (show j < la.length by omega)], by simp [List.getD, List.getElem?_eq_getElem (show j < lb.length by omega)]⟩
            · cases hs
          · have := K105 (X := dX cHT) rfl sa ra _ ss rs _ ⟨cxl, cxh⟩ ⟨cyl, cyh⟩ ⟨wxl, wxh⟩ ⟨wyl, wyh⟩ hl hr (slV_slN (c := heldC) (l := marksOf rs ++ [Held.mk n y.x y.y]) (by simp [marksOf]; unfold maxL; omega)) (held_blk hmb hm) hp
            rw [e] at this
            rw [heldAt_can]
            exact this
        have HB109 := Lib.hid b109
        have HM106 := Lib.hid m106
        have HW120' := Lib.hid w120
        have HB105' := Lib.hid b105
        have HBD := Lib.hid hbd
        have HBL := Lib.hid hbl
        generalize refBoxes err ss hs 8 = bxs at *
        generalize heldAt ⟨cxl, cxh⟩ ⟨cyl, cyh⟩ ⟨wxl, wxh⟩ ⟨wyl, wyh⟩ rs n j = f at *
        have hba := slN_is (bxs.map markE)
        have oba := hba.out
        have lba := hba.len
        have tba := hba.tup
        rw [List.length_map] at lba
        simp only [isTuple] at tba
        have omk := (slN_is ((marksOf rs).map heldC.enc)).out
        have tmk := (slN_is ((marksOf rs).map heldC.enc)).tup
        clear hdd hbd hbl b105 w120 m106 b109 hl hh hr hc hmb hsl hba q2 q3
        refine ClR.walk (c := _) rfl Tryz.func56 rfl (by kernel_rfl) rfl isRet_fail ?_
        simp only [entryEnv, Nat.reduceAdd, emptyHp]
        repeat' (first | refine goS ?_ | (apply U6; exact Z1; exact Z1; (focus (simp only [List.nil_append, List.append_nil]; first | exact HB109.out _)); simp only [pM, pN, rR, rP]) | refine go2 (fun hh => ?_) (fun hh => ?_) | fail)
        refine W.loopN bxs.length (fun i F => ∃ e lm acc, F = Fr.mk 56 false e lm ⟨0, .nil⟩ [] none ∧ acc = prvL f (bxs.take i) ∧ lm.get 4 = some (0, [sa, .int .i64 cxl, .int .i64 cxh, .int .i64 cyl, .int .i64 cyh, .int .i64 wxl, .int .i64 wxh, .int .i64 wyl, .int .i64 wyh, ra]) ∧ lm.get 8 = some (0, [.int .i64 0, .int .i64 0]) ∧ lm.get 9 = some (0, [.int .i64 0, .int .i64 0]) ∧
          lm.get 11 = some (0, [.int .i64 (acc.getD ⟨⟨0, 0⟩, ⟨0, 0⟩⟩).x.lo, .int .i64 (acc.getD ⟨⟨0, 0⟩, ⟨0, 0⟩⟩).x.hi]) ∧ lm.get 12 = some (0, [.int .i64 (acc.getD ⟨⟨0, 0⟩, ⟨0, 0⟩⟩).y.lo, .int .i64 (acc.getD ⟨⟨0, 0⟩, ⟨0, 0⟩⟩).y.hi]) ∧
          e.get 2 = some (.int .i64 ↑n) ∧ e.get 3 = some (.int .i64 ↑j) ∧ e.get 4 = some (.lptr 4 0 0) ∧ e.get 8 = some (.lptr 8 0 0) ∧ e.get 9 = some (.lptr 9 0 0) ∧ e.get 11 = some (.lptr 11 0 0) ∧ e.get 12 = some (.lptr 12 0 0) ∧ e.get 13 = some (.bool acc.isSome) ∧ e.get 14 = some (slN (bxs.map markE)) ∧ e.get 15 = some (.int .i64 ↑i) ∧ i ≤ bxs.length) ?_ ?_
        · refine ⟨_, _, none, rfl, rfl, ?_, ?_, ?_, ?_, ?_, ?_, ?_, ?_, ?_, ?_, ?_, ?_, ?_, ?_, ?_, ?_⟩ <;> first | exact Z2 | simp [go_sem, *]
        rintro i F ⟨e, lm, acc, rfl, hacc, l4, l8, l9, l11, l12, h2, h3, h4, h8, h9, h11, h12, h13, h14, h15, hi⟩
        have HACC := Lib.hid hacc
        clear hacc
        by_cases hil : i < bxs.length
        · obtain ⟨y, hy⟩ := get_some hil
          have hd : decide ((i : Int) < (bxs.length : Int)) = true := by simpa using hil
          have hw2 := wrap_succ (m := bxs.length) hil (by have := HBL.out; unfold maxL; omega)
          have hix := fun H => mkE_idx hy H
          have w120 := HW120'.out y
          obtain ⟨a, b, oa, ob, ta, tb, hab, b105⟩ := HB105'.out y (HBD.out y (List.mem_of_getElem? hy))
          have hnx := prv_take (f := f) hy
          rw [← HACC.out] at hnx
          have HNX := Lib.hid hnx
          have HW120 := Lib.hid w120
          have own := (slN_is ((marksOf rs ++ [Held.mk n y.x y.y]).map heldC.enc)).out
          have twn := (slN_is ((marksOf rs ++ [Held.mk n y.x y.y]).map heldC.enc)).tup
          clear hnx hy w120 HW120' HB105'
          generalize slN ((marksOf rs ++ [Held.mk n y.x y.y]).map heldC.enc) = wn at *
          generalize slN ((marksOf rs).map heldC.enc) = mk0 at *
          cases hf : f y with
          | none =>
            rw [hf] at b105
            simp only [Option.isSome_none] at b105
            have HF := Lib.hid hf
            have HB105 := Lib.hid b105
            clear hf hab b105
            repeat' (first | (apply W.drawQ (id := 7) (l1 := [0, 1, 2, 3, 4, 5, 6, 7, 8, 9, 10, 11, 12, 13, 14, 15, 16]) (l2 := []); kernel_rfl; kernel_rfl; kernel_rfl; exact Z4) | (apply W.drawQ (id := 11) (l1 := [0, 1, 2, 3, 4, 5, 6, 7, 8, 9, 10, 11, 12, 13, 14, 15, 16]) (l2 := [17]); kernel_rfl; kernel_rfl; kernel_rfl; exact Z4) | (apply W.drawQ (id := 12) (l1 := [0, 1, 2, 3, 4, 5, 6, 7, 8, 9, 10, 11, 12, 13, 14, 15, 16]) (l2 := [17]); kernel_rfl; kernel_rfl; kernel_rfl; exact Z4) | (apply W.draw (id := 10) (lc := [0, 1, 2, 3, 4, 5, 6, 7, 8, 9, 10]) (hot := [(6, 8), (7, 8)]); kernel_rfl; kernel_rfl; kernel_rfl; exact Z4) | (apply WD.cons (o := ⟨none, .store 48 (.tmp 11) (.tmp 49), _, _, _, none⟩); exact rfl; exact rfl) | (apply WD.cons (o := ⟨none, .store 48 (.tmp 12) (.tmp 53), _, _, _, none⟩); exact rfl; exact rfl) | (apply WD.cons (o := ⟨some 13, _, _, _, _, none⟩); exact rfl; exact rfl) | (refine WD.cons rfl rfl ?_) | (refine WD.nil ⟨?_, ?_⟩; rotate_left; simp only [tN, bN, eN, true_and]) | (refine calmR rfl rfl rfl rfl rfl ?_ ?_; (focus (first | exact Z2 | exact Z1))) | (refine calmE rfl rfl rfl rfl rfl ?_ ?_; (focus (first | exact Z2 | exact Z1))) | (with_reducible refine calmEnd) | refine go1 ?_ | (apply U6; exact Z1; exact Z1; (focus (simp only [List.nil_append, List.append_nil]; first | exact HM106.out _ | exact HW120.out _ | exact HB105.out _)); simp only [pM, pN, rR, rP]) | refine go2 (fun hh => ?_) (fun hh => ?_) | fail)
            refine ⟨hil, _, _, acc, rfl, ?_, ?_, ?_, ?_, ?_, ?_, ?_, ?_, ?_, ?_, ?_, ?_, ?_, ?_, ?_, ?_, by omega⟩
            · rw [HNX.out]; simp [prvStep, HF.out]
            all_goals exact Z2
          | some p =>
            obtain ⟨la, lb, rfl, rfl, hpa, hpb⟩ := hab p hf
            rw [hf] at b105
            simp only [Option.isSome_some] at b105
            have hi1 := sp_idx hpa
            have hi2 := sp_idx hpb
            have HF := Lib.hid hf
            have HB105 := Lib.hid b105
            clear hf hab b105 hpa hpb
            generalize la.map spC.enc = la at *
            generalize lb.map spC.enc = lb at *
            cases acc with
            | none =>
              simp only [Option.getD_none, Option.isSome_none] at l11 l12 h13
              repeat' (first | (apply W.drawQ (id := 7) (l1 := [0, 1, 2, 3, 4, 5, 6, 7, 8, 9, 10, 11, 12, 13, 14, 15, 16]) (l2 := []); kernel_rfl; kernel_rfl; kernel_rfl; exact Z4) | (apply W.drawQ (id := 11) (l1 := [0, 1, 2, 3, 4, 5, 6, 7, 8, 9, 10, 11, 12, 13, 14, 15, 16]) (l2 := [17]); kernel_rfl; kernel_rfl; kernel_rfl; exact Z4) | (apply W.drawQ (id := 12) (l1 := [0, 1, 2, 3, 4, 5, 6, 7, 8, 9, 10, 11, 12, 13, 14, 15, 16]) (l2 := [17]); kernel_rfl; kernel_rfl; kernel_rfl; exact Z4) | (apply W.draw (id := 10) (lc := [0, 1, 2, 3, 4, 5, 6, 7, 8, 9, 10]) (hot := [(6, 8), (7, 8)]); kernel_rfl; kernel_rfl; kernel_rfl; exact Z4) | (apply WD.cons (o := ⟨none, .store 48 (.tmp 11) (.tmp 49), _, _, _, none⟩); exact rfl; exact rfl) | (apply WD.cons (o := ⟨none, .store 48 (.tmp 12) (.tmp 53), _, _, _, none⟩); exact rfl; exact rfl) | (apply WD.cons (o := ⟨some 13, _, _, _, _, none⟩); exact rfl; exact rfl) | (refine WD.cons rfl rfl ?_) | (refine WD.nil ⟨?_, ?_⟩; rotate_left; simp only [tN, bN, eN, true_and]) | (refine calmR rfl rfl rfl rfl rfl ?_ ?_; (focus (first | exact Z2 | exact Z1))) | (refine calmE rfl rfl rfl rfl rfl ?_ ?_; (focus (first | exact Z2 | exact Z1))) | (with_reducible refine calmEnd) | refine go1 ?_ | (apply U6; exact Z1; exact Z1; (focus (simp only [List.nil_append, List.append_nil]; first | exact HM106.out _ | exact HW120.out _ | exact HB105.out _)); simp only [pM, pN, rR, rP]) | refine go2 (fun hh => ?_) (fun hh => ?_) | fail)
              refine ⟨hil, _, _, some (hullB p p), rfl, ?_, ?_, ?_, ?_, ?_, ?_, ?_, ?_, ?_, ?_, ?_, ?_, ?_, ?_, ?_, ?_, by omega⟩
              · rw [HNX.out]; simp [prvStep, HF.out, hullB_same]
              all_goals first | exact Z2 | simp [hullB, hullS, go_sem, *, Nat.reduceLT, Int.reduceEq, Int.reduceBEq, Int.reduceLE, Int.reduceLT, Nat.reduceAdd, Nat.reduceBEq, Nat.reduceEqDiff, reduceIte, Nat.reduceLeDiff, Nat.reduceMul, Nat.reduceSub, reduceCtorEq]
            | some ac =>
              simp only [Option.getD_some, Option.isSome_some] at l11 l12 h13
              repeat' (first | (apply W.drawQ (id := 7) (l1 := [0, 1, 2, 3, 4, 5, 6, 7, 8, 9, 10, 11, 12, 13, 14, 15, 16]) (l2 := []); kernel_rfl; kernel_rfl; kernel_rfl; exact Z4) | (apply W.drawQ (id := 11) (l1 := [0, 1, 2, 3, 4, 5, 6, 7, 8, 9, 10, 11, 12, 13, 14, 15, 16]) (l2 := [17]); kernel_rfl; kernel_rfl; kernel_rfl; exact Z4) | (apply W.drawQ (id := 12) (l1 := [0, 1, 2, 3, 4, 5, 6, 7, 8, 9, 10, 11, 12, 13, 14, 15, 16]) (l2 := [17]); kernel_rfl; kernel_rfl; kernel_rfl; exact Z4) | (apply W.draw (id := 10) (lc := [0, 1, 2, 3, 4, 5, 6, 7, 8, 9, 10]) (hot := [(6, 8), (7, 8)]); kernel_rfl; kernel_rfl; kernel_rfl; exact Z4) | (apply WD.cons (o := ⟨none, .store 48 (.tmp 11) (.tmp 49), _, _, _, none⟩); exact rfl; exact rfl) | (apply WD.cons (o := ⟨none, .store 48 (.tmp 12) (.tmp 53), _, _, _, none⟩); exact rfl; exact rfl) | (apply WD.cons (o := ⟨some 13, _, _, _, _, none⟩); exact rfl; exact rfl) | (refine WD.cons rfl rfl ?_) | (refine WD.nil ⟨?_, ?_⟩; rotate_left; simp only [tN, bN, eN, true_and]) | (refine calmR rfl rfl rfl rfl rfl ?_ ?_; (focus (first | exact Z2 | exact Z1))) | (refine calmE rfl rfl rfl rfl rfl ?_ ?_; (focus (first | exact Z2 | exact Z1))) | (with_reducible refine calmEnd) | refine go1 ?_ | (apply U6; exact Z1; exact Z1; (focus (simp only [List.nil_append, List.append_nil]; first | exact HM106.out _ | exact HW120.out _ | exact HB105.out _)); simp only [pM, pN, rR, rP]) | refine go2 (fun hh => ?_) (fun hh => ?_) | fail)
              refine ⟨hil, _, _, some (hullB ac p), rfl, ?_, ?_, ?_, ?_, ?_, ?_, ?_, ?_, ?_, ?_, ?_, ?_, ?_, ?_, ?_, ?_, by omega⟩
              · rw [HNX.out]; simp [prvStep, HF.out]
              all_goals first | exact Z2 | simp [hullB, hullS, go_sem, *, Nat.reduceLT, Int.reduceEq, Int.reduceBEq, Int.reduceLE, Int.reduceLT, Nat.reduceAdd, Nat.reduceBEq, Nat.reduceEqDiff, reduceIte, Nat.reduceLeDiff, Nat.reduceMul, Nat.reduceSub, reduceCtorEq]
        · have hd : decide ((i : Int) < (bxs.length : Int)) = false := by simpa using hil
          have hii : i = bxs.length := by omega
          have ha := HACC.out
          rw [hii, List.take_length] at ha
          rw [← ha]
          clear ha hil hi hii
          cases acc with
          | none =>
            simp only [Option.getD_none, Option.isSome_none] at l11 l12 h13
            repeat' (first | (apply W.draw (id := 13) (lc := [0, 1, 2, 3, 4, 5]) (hot := [(1, 3)]); kernel_rfl; kernel_rfl; kernel_rfl; exact Z4) | (refine WD.cons rfl rfl ?_) | (refine WD.nil ⟨?_, ?_⟩; rotate_left; simp only [tN, bN, eN, true_and]) | (refine calmR rfl rfl rfl rfl rfl ?_ ?_; (focus (first | exact Z2 | exact Z1))) | (refine calmE rfl rfl rfl rfl rfl ?_ ?_; (focus (first | exact Z2 | exact Z1))) | (with_reducible refine calmEnd) | refine go1 ?_ | refine go2 (fun hh => ?_) (fun hh => ?_) | fail)
            all_goals simp only [resV_def (X := dX cHT) Tryz.func56, Tryz.results56, resultsV, resultV, go_sem, *, Nat.reduceLT, Int.reduceEq, Int.reduceBEq, Int.reduceLE, Int.reduceLT, Nat.reduceAdd, Nat.reduceBEq, Nat.reduceEqDiff, reduceIte, Nat.reduceLeDiff, Nat.reduceMul, Nat.reduceSub, reduceCtorEq, frzRes, dFrz, frzCells, isRet_ret, tupleOf]
            all_goals simp [prvR]
          | some b =>
            simp only [Option.getD_some, Option.isSome_some] at l11 l12 h13
            repeat' (first | (apply W.draw (id := 13) (lc := [0, 1, 2, 3, 4, 5]) (hot := [(1, 3)]); kernel_rfl; kernel_rfl; kernel_rfl; exact Z4) | (refine WD.cons rfl rfl ?_) | (refine WD.nil ⟨?_, ?_⟩; rotate_left; simp only [tN, bN, eN, true_and]) | (refine calmR rfl rfl rfl rfl rfl ?_ ?_; (focus (first | exact Z2 | exact Z1))) | (refine calmE rfl rfl rfl rfl rfl ?_ ?_; (focus (first | exact Z2 | exact Z1))) | (with_reducible refine calmEnd) | refine go1 ?_ | refine go2 (fun hh => ?_) (fun hh => ?_) | fail)
            all_goals simp only [resV_def (X := dX cHT) Tryz.func56, Tryz.results56, resultsV, resultV, go_sem, *, Nat.reduceLT, Int.reduceEq, Int.reduceBEq, Int.reduceLE, Int.reduceLT, Nat.reduceAdd, Nat.reduceBEq, Nat.reduceEqDiff, reduceIte, Nat.reduceLeDiff, Nat.reduceMul, Nat.reduceSub, reduceCtorEq, frzRes, dFrz, frzCells, isRet_ret, tupleOf]
            all_goals simp [prvR, spC]
      · cases h
    · cases h
  · cases h
end Go.AM
set_option linter.unusedSimpArgs false
set_option linter.unusedVariables false
set_option linter.unusedSectionVars false
namespace Go.AM
open Go
variable [Keep]
theorem allS_sub (b : Int) : ∀ (L : List Lim) (s : Sp), s.lo ≤ (allS b L s).lo ∧ (allS b L s).hi ≤ s.hi := by
  intro L
  induction L with
  | nil => intro s; exact ⟨Int.le_refl _, Int.le_refl _⟩
  | cons m r ih =>
    intro s
    simp only [allS]
    split
    · have := ih (interS s m.sp)
      simp only [interS_lo, interS_hi] at this
      omega
    · exact ih s
theorem allS_lim (b : Int) : ∀ (L : List Lim) (s : Sp), ∀ m ∈ L, m.b = b → m.lo ≤ (allS b L s).lo ∧ (allS b L s).hi ≤ m.hi := by
  intro L
  induction L with
  | nil => intro s m h; simp at h
  | cons x r ih =>
    intro s m hm hb
    simp only [allS]
    rcases List.mem_cons.1 hm with rfl | hm
    · rw [if_pos (by simpa using hb)]
      have := allS_sub b r (interS s m.sp)
      simp only [interS_lo, interS_hi, Lim.sp] at this
      simp only [Lim.sp]
      omega
    · split
      · exact ih _ m hm hb
      · exact ih _ m hm hb
theorem on_lim (ax : Ax) (k : Nat) : ∀ m ∈ ax.limits, m.b = (k : Int) → m.lo ≤ (onS ax k).lo ∧ (onS ax k).hi ≤ m.hi := by
  intro m hm hb
  cases k with
  | zero => exact allS_lim _ _ _ m hm hb
  | succ k => exact allS_lim _ _ _ m hm hb
theorem back_eq (ax : Ax) : ∀ (n : Nat) (out : List Sp), n < out.length → ∀ j, j < n → (backS ax n out).getD j ⟨0, 0⟩ = interS (out.getD j ⟨0, 0⟩) (prvS ax ((backS ax n out).getD (j + 1) ⟨0, 0⟩)) := by
  intro n
  induction n with
  | zero => intro out _ j hj; omega
  | succ n ih =>
    intro out hn j hj
    simp only [backS]
    by_cases hjn : j < n
    · rw [ih _ (by simp; omega) j hjn, getD_set_ne (by omega)]
    · obtain rfl : j = n := by omega
      rw [back_keep _ _ _ _ (Nat.le_refl _), back_keep _ _ _ _ (by omega), getD_set_same (by omega), getD_set_ne (by omega)]
theorem any_not {l : List Sp} (h : l.any empS = false) {j : Nat} (hj : j < l.length) : (l.getD j ⟨0, 0⟩).lo ≤ (l.getD j ⟨0, 0⟩).hi := by
  have := List.any_eq_false.1 h l[j] (List.getElem_mem hj)
  simp only [empS, decide_eq_true_eq] at this
  simp [List.getD, hj]
  omega
structure Bnd (c w : Sp) (L : List Lim) (t : List Sp) : Prop where
  len : t.length = 13
  ne : ∀ j, j ≤ 12 → (t.getD j ⟨0, 0⟩).lo ≤ (t.getD j ⟨0, 0⟩).hi
  sub : ∀ j, j ≤ 12 → (onS ⟨c, w, L⟩ j).lo ≤ (t.getD j ⟨0, 0⟩).lo ∧ (t.getD j ⟨0, 0⟩).hi ≤ (onS ⟨c, w, L⟩ j).hi
  small : ∀ j, j ≤ 12 → -48 ≤ (t.getD j ⟨0, 0⟩).lo ∧ (t.getD j ⟨0, 0⟩).hi ≤ 48
  lo : ∀ j, j < 12 → (t.getD j ⟨0, 0⟩).lo = max (onS ⟨c, w, L⟩ j).lo ((t.getD (j + 1) ⟨0, 0⟩).lo - w.hi)
  hi : ∀ j, j < 12 → (t.getD j ⟨0, 0⟩).hi = min (onS ⟨c, w, L⟩ j).hi ((t.getD (j + 1) ⟨0, 0⟩).hi - w.lo)
theorem bnd_of {c w : Sp} {L : List Lim} (g : Good c w L) {t : List Sp} (ht : boundsS ⟨c, w, L⟩ = some t) : Bnd c w L t := by
  rw [bounds_good g] at ht
  unfold refS at ht
  split at ht
  · cases ht
  rename_i hne
  have hne : (backS ⟨c, w, L⟩ 12 ((List.range 13).map (onS ⟨c, w, L⟩))).any empS = false := by simpa using hne
  have ht := Option.some.inj ht
  have w1 := g.w1
  have w2 := g.w2
  have w3 := g.w3
  have hlen : t.length = 13 := by rw [← ht, back_len]; simp
  rw [ht] at hne
  have nep : ∀ j, j ≤ 12 → (t.getD j ⟨0, 0⟩).lo ≤ (t.getD j ⟨0, 0⟩).hi := fun j hj => any_not hne (by omega)
  have heq : ∀ j, j < 12 → t.getD j ⟨0, 0⟩ = interS (onS ⟨c, w, L⟩ j) (prvS ⟨c, w, L⟩ (t.getD (j + 1) ⟨0, 0⟩)) := fun j hj => by
    have := back_eq ⟨c, w, L⟩ 12 ((List.range 13).map (onS ⟨c, w, L⟩)) (by simp) j hj
    rw [ht, on_list _ (by omega)] at this
    exact this
  have hlast : t.getD 12 ⟨0, 0⟩ = onS ⟨c, w, L⟩ 12 := by
    have := back_keep ⟨c, w, L⟩ 12 ((List.range 13).map (onS ⟨c, w, L⟩)) 12 (Nat.le_refl _)
    rw [ht, on_list _ (by omega)] at this
    exact this
  have sub : ∀ j, j ≤ 12 → (onS ⟨c, w, L⟩ j).lo ≤ (t.getD j ⟨0, 0⟩).lo ∧ (t.getD j ⟨0, 0⟩).hi ≤ (onS ⟨c, w, L⟩ j).hi := fun j hj => by
    rcases Nat.lt_or_ge j 12 with q | q
    · rw [heq j q]
      simp only [interS_lo, interS_hi]
      omega
    · obtain rfl : j = 12 := by omega
      rw [hlast]
      omega
  have small : ∀ j, j ≤ 12 → -48 ≤ (t.getD j ⟨0, 0⟩).lo ∧ (t.getD j ⟨0, 0⟩).hi ≤ 48 := fun j hj => by
    have := on_bd g j (by omega)
    have := sub j hj
    omega
  have prv : ∀ j, j < 12 → (prvS ⟨c, w, L⟩ (t.getD (j + 1) ⟨0, 0⟩)).lo = (t.getD (j + 1) ⟨0, 0⟩).lo - w.hi ∧ (prvS ⟨c, w, L⟩ (t.getD (j + 1) ⟨0, 0⟩)).hi = (t.getD (j + 1) ⟨0, 0⟩).hi - w.lo := fun j hj => by
    have q := small (j + 1) (by omega)
    have e := nep (j + 1) (by omega)
    generalize t.getD (j + 1) ⟨0, 0⟩ = s at *
    exact ⟨wrap_small (show -4611686018427387904 ≤ s.lo - w.hi by omega) (show s.lo - w.hi ≤ 4611686018427387904 by omega), wrap_small (show -4611686018427387904 ≤ s.hi - w.lo by omega) (show s.hi - w.lo ≤ 4611686018427387904 by omega)⟩
  refine ⟨hlen, nep, sub, small, fun j hj => ?_, fun j hj => ?_⟩
  · rw [congrArg Sp.lo (heq j hj), interS_lo, (prv j hj).1]
  · rw [congrArg Sp.hi (heq j hj), interS_hi, (prv j hj).2]
def endsL (e : Sp → Int) (t : List Sp) : List Int := (List.range 13).map fun j => e (t.getD j ⟨0, 0⟩)
theorem ends_get (e : Sp → Int) (t : List Sp) {j : Nat} (hj : j < 13) : (endsL e t).getD j 0 = e (t.getD j ⟨0, 0⟩) := by
  simp [endsL, List.getD, hj]
theorem on_nxt {c w : Sp} {L : List Lim} (g : Good c w L) {j : Nat} (hj : j < 12) : (onS ⟨c, w, L⟩ j).lo + w.lo ≤ (onS ⟨c, w, L⟩ (j + 1)).lo ∧ (onS ⟨c, w, L⟩ (j + 1)).hi ≤ (onS ⟨c, w, L⟩ j).hi + w.hi := by
  have h1 := allS_sub ((j + 1 : Nat) : Int) L (nxtS ⟨c, w, L⟩ (onS ⟨c, w, L⟩ j))
  obtain ⟨e1, e2⟩ := nxt_small g (by omega) (by omega) (on_bd g j (by omega))
  rw [e1, e2] at h1
  exact h1
theorem ends_fit {c w : Sp} {L : List Lim} (g : Good c w L) (hL : ∀ m ∈ L, 0 ≤ m.b ∧ m.b ≤ 12) {t : List Sp} (b : Bnd c w L t) (e : Sp → Int) (he : (∀ s, e s = s.lo) ∨ (∀ s, e s = s.hi)) : fitsA ⟨c, w, L⟩ (endsL e t) = true := by
  have w1 := g.w1
  have w2 := g.w2
  have w3 := g.w3
  have val : ∀ j, j ≤ 12 → (t.getD j ⟨0, 0⟩).lo ≤ e (t.getD j ⟨0, 0⟩) ∧ e (t.getD j ⟨0, 0⟩) ≤ (t.getD j ⟨0, 0⟩).hi := fun j hj => by
    have := b.ne j hj
    rcases he with he | he <;> rw [he] <;> omega
  simp only [fitsA, Bool.and_eq_true]
  refine ⟨?_, List.all_eq_true.2 fun k hk => ?_, List.all_eq_true.2 fun m hm => ?_⟩
  · rw [ends_get e t (by omega)]
    have h1 := val 0 (by omega)
    have h2 := b.sub 0 (by omega)
    have h3 := allS_sub 0 L c
    have h4 : onS ⟨c, w, L⟩ 0 = allS 0 L c := rfl
    rw [h4] at h2
    simp only [inB, Bool.and_eq_true, decide_eq_true_eq]
    omega
  · have hk : k < 12 := by simpa using hk
    simp only [stepB]
    rw [ends_get e t (by omega), ends_get e t (by omega)]
    have h1 := b.small k (by omega)
    have h2 := b.small (k + 1) (by omega)
    have h3 := val k (by omega)
    have h4 := val (k + 1) (by omega)
    have h5 := b.lo k hk
    have h6 := b.hi k hk
    have h7 := b.sub (k + 1) (by omega)
    have h8 := on_nxt g hk
    have hw : w64 (e (t.getD (k + 1) ⟨0, 0⟩) - e (t.getD k ⟨0, 0⟩)) = e (t.getD (k + 1) ⟨0, 0⟩) - e (t.getD k ⟨0, 0⟩) := wrap_small (by omega) (by omega)
    rw [hw]
    simp only [inB, Bool.and_eq_true, decide_eq_true_eq]
    rcases he with he | he <;> simp only [he] at * <;> omega
  · have hb := hL m hm
    have hm2 : m.b = (m.b.toNat : Int) := by omega
    have h1 := on_lim ⟨c, w, L⟩ m.b.toNat m hm hm2
    simp only [inL]
    rw [ends_get e t (by omega)]
    have h2 := val m.b.toNat (by omega)
    have h3 := b.sub m.b.toNat (by omega)
    simp only [inB, Bool.and_eq_true, decide_eq_true_eq]
    omega
end Go.AM
set_option linter.unusedSimpArgs false
set_option linter.unusedVariables false
set_option linter.unusedSectionVars false
namespace Go.AM
open Go
variable [Keep]
def heldB (n : Nat) (y : Bx) : Held := ⟨n, y.x, y.y⟩
end Go.AM
set_option linter.unusedSimpArgs false
set_option linter.unusedVariables false
set_option linter.unusedSectionVars false
namespace Go.AM
open Go
variable [Keep]
attribute [local irreducible] boundsS
def posH (cx cy wx wy : Sp) (rs : List Rdg) (ms : List Held) : Bool := (boundsS (ax0 cx wx rs ms)).isSome && (boundsS (ax1 cy wy rs ms)).isSome
theorem posH_nil (cx cy wx wy : Sp) (rs : List Rdg) : posH cx cy wx wy rs [] = possB cx cy wx wy rs := rfl
theorem posH_one (cx cy wx wy : Sp) (rs : List Rdg) (n : Nat) (y : Bx) : posH cx cy wx wy rs [heldB n y] = canB cx cy wx wy rs n y := rfl
theorem fitsA_sub {c w : Sp} {L L' : List Lim} {l : List Int} (h : fitsA ⟨c, w, L⟩ l = true) (hs : ∀ m ∈ L', m ∈ L) : fitsA ⟨c, w, L'⟩ l = true := by
  simp only [fitsA, Bool.and_eq_true, List.all_eq_true] at h ⊢
  exact ⟨h.1, h.2.1, fun m hm => h.2.2 m (hs m hm)⟩
theorem bounds_sub {c w : Sp} {L L' : List Lim} (g : Good c w L) (g' : Good c w L') (hL : ∀ m ∈ L, 0 ≤ m.b ∧ m.b ≤ 12) (hs : ∀ m ∈ L', m ∈ L) (h : (boundsS ⟨c, w, L⟩).isSome = true) : (boundsS ⟨c, w, L'⟩).isSome = true := by
  obtain ⟨t, ht⟩ := Option.isSome_iff_exists.1 h
  have b := bnd_of g ht
  have hf := ends_fit g hL b Sp.lo (.inl fun _ => rfl)
  have hn : (endsL Sp.lo t).all okN = true := by
    refine List.all_eq_true.2 fun x hx => ?_
    unfold endsL at hx
    obtain ⟨j, hj, rfl⟩ := List.mem_map.1 hx
    have hj : j < 13 := by simpa using hj
    have h1 := b.small j (by omega)
    have h2 := b.ne j (by omega)
    have e : w64 (-80) = -80 := rfl
    simp only [okN, inB, e, Bool.and_eq_true, decide_eq_true_eq]
    omega
  obtain ⟨t', ht', _⟩ := fits_within g' (fitsA_sub hf hs) hn
  rw [ht']
  rfl
section
variable {ss : List Pt} {cx cy wx wy : Sp} {rs : List Rdg} (h : machB ss cx cy wx wy rs = true)
include h
theorem lims_in {ms : List Held} (hm : ∀ m ∈ ms, HeldOk m) : (∀ m ∈ (ax0 cx wx rs ms).limits, 0 ≤ m.b ∧ m.b ≤ 12) ∧ (∀ m ∈ (ax1 cy wy rs ms).limits, 0 ≤ m.b ∧ m.b ≤ 12) := by
  have hr := mach_rdg h
  constructor <;>
  · intro m h'
    rcases List.mem_append.1 h' with q | q
    · obtain ⟨p, hp, rfl⟩ := List.mem_map.1 q
      have := rdg_of (hr p hp)
      simp only
      omega
    · obtain ⟨k, hk, rfl⟩ := List.mem_map.1 q
      exact (hm k hk).b
theorem posH_sub {ms ms' : List Held} (hm : ∀ m ∈ ms, HeldOk m) (hs : ∀ m ∈ ms', m ∈ ms) (hp : posH cx cy wx wy rs ms = true) : posH cx cy wx wy rs ms' = true := by
  have hm' : ∀ m ∈ ms', HeldOk m := fun m q => hm m (hs m q)
  unfold posH at hp ⊢
  rw [Bool.and_eq_true] at hp ⊢
  obtain ⟨l1, l2⟩ := lims_in h hm
  refine ⟨bounds_sub (L := (ax0 cx wx rs ms).limits) (L' := (ax0 cx wx rs ms').limits) (good_xh h hm) (good_xh h hm') l1 (fun m q => ?_) hp.1, bounds_sub (L := (ax1 cy wy rs ms).limits) (L' := (ax1 cy wy rs ms').limits) (good_yh h hm) (good_yh h hm') l2 (fun m q => ?_) hp.2⟩ <;>
  · rcases List.mem_append.1 q with q | q
    · exact List.mem_append.2 (.inl q)
    · obtain ⟨k, hk, rfl⟩ := List.mem_map.1 q
      exact List.mem_append.2 (.inr (List.mem_map.2 ⟨k, hs k hk, rfl⟩))
variable {xs ys : List Int} (ht : truthB xs ys = true) (hf : fitsM cx cy wx wy rs xs ys = true)
include ht hf
end
end Go.AM
set_option linter.unusedSectionVars false
set_option linter.unusedVariables false
set_option linter.unusedSimpArgs false
set_option maxRecDepth 100000
namespace Go.AM
open Go Go.Proofs
variable [Keep]
attribute [local irreducible] W WO WO1 WD WQ WT thenQ blockQ endR isRet retK Cl ClR
attribute [local irreducible] roundQ RdR clR boundsS machB boxL suitB MA.could MA.poss MA.suit MA.mach
section
variable {X : Ctx} {ops : Array Oper} {K P : AV → Fr → Prop} {F : Fr} {d : Option Tmp} {op : Op} {T : TypeId} {p : String} {af : Array Edge} {j : Nat} {want : Bool} {o : Oper} {t : Tmp}
end
def sp54 : List AV → Option AV
  | [.agg [ha, .int .i64 _]] => (slLen ha).map fun (n : Nat) => AV.bool (decide ((n : Int) ≤ 6))
  | _ => none
theorem F54 : IntrFn Tryz.prog 54 (pureFn sp54) := by
  refine pure_fn (X := dX cP2) cP2_sound (fun a v h => by
    unfold sp54 at h
    split at h
    · simp only [Option.map_eq_some_iff] at h; obtain ⟨n, _, rfl⟩ := h; rfl
    · cases h) ?_
  intro args v h
  unfold sp54 at h
  split at h
  · simp only [Option.map_eq_some_iff] at h
    obtain ⟨n, hn, rfl⟩ := h
    obtain ⟨ln, ou, tu⟩ := slLen_is hn
    simp only [isTuple] at tu
    clear hn
    refine ClR.walk (c := _) rfl Tryz.func54 rfl (by kernel_rfl) rfl isRet_fail ?_
    simp only [entryEnv, Nat.reduceAdd]
    repeat' (first | refine goS ?_ | refine go2 (fun hh => ?_) (fun hh => ?_) | fail)
    all_goals simp only [resV_def (X := dX cP2) Tryz.func54, Tryz.results54, resultsV, resultV, go_sem, *, Nat.reduceLT, Int.reduceEq, Int.reduceBEq, Int.reduceLE, Int.reduceLT, Nat.reduceAdd, Nat.reduceBEq, Nat.reduceEqDiff, reduceIte, Nat.reduceLeDiff, Nat.reduceMul, Nat.reduceSub, reduceCtorEq, frzRes, dFrz, frzCells, isRet_ret, tupleOf]
  · cases h
theorem K54 {X : Ctx} (hX : X.intr 54 = some (pureFn sp54)) (ha : AV) (es : List AV) (err : Int) (hl : isSl ha es) (hp : ∀ x ∈ es, x.pur = true) (h : Heap) : Cl X 54 [.agg [ha, .int .i64 err]] h (.ret (.bool (decide ((es.length : Int) ≤ 6))) h none) :=
  Cl.intr hX (by simp [pureFn, AV.pur, AV.purL, hl.pur hp, sp54, slLen_mk hl])
end Go.AM
set_option linter.unusedSectionVars false
set_option linter.unusedVariables false
set_option linter.unusedSimpArgs false
set_option maxRecDepth 100000
namespace Go.AM
open Go Go.Proofs
variable [Keep]
attribute [local irreducible] W WO WO1 WD WQ WT thenQ blockQ endR isRet retK Cl ClR
attribute [local irreducible] boundsS machB boxL suitB prvL
noncomputable def c10 : FuncId → Option (List AV → Heap → Option (AV × Heap))
  | 38 => some (pureFn sp38)
  | 40 => some (pureFn sp40)
  | 41 => some (pureFn sp41)
  | 51 => some (pureFn sp162)
  | 54 => some (pureFn sp54)
  | 55 => some (flatFnD sp55)
  | 56 => some (pureFn sp56)
  | f => c25 cK f
theorem K55 {X : Ctx} (hX : X.intr 55 = some (flatFnD sp55)) (sa ra ha : AV) (ss hs : List Pt) (rs : List Rdg) (cx cy wx wy : Sp) (err at_ blank : Int) (h : Heap) (hl : SeeV h ptC sa ss) (hr : SeeV h rdgC ra rs) (hh : SeeV h ptC ha hs) :
    Cl X 55 [.agg [sa, .int .i64 cx.lo, .int .i64 cx.hi, .int .i64 cy.lo, .int .i64 cy.hi, .int .i64 wx.lo, .int .i64 wx.hi, .int .i64 wy.lo, .int .i64 wy.hi, ra], .agg [ha, .int .i64 err], .int .i64 at_, .int .i64 blank] h (.ret (prvV (suitB (machB ss cx cy wx wy rs) ss hs err && inB at_ 1 12 && inB blank 0 12) (prvL (heldAt cx cy wx wy rs at_.toNat blank.toNat) (boxL err ss hs))) h none) := by
  obtain ⟨sa', v1, s1⟩ := hl
  obtain ⟨ra', v2, s2⟩ := hr
  obtain ⟨ha', v3, s3⟩ := hh
  have e : ∀ n, viewD h (.int .i64 n) = some (.int .i64 n) := fun n => rfl
  exact Cl.intr hX (by simp only [flatFnD, viewDs, viewD_mach v1 v2, viewD_but v3, e, sp55, s1, s2, s3])
theorem held_poss {ss : List Pt} {cx cy wx wy : Sp} {rs : List Rdg} (h : machB ss cx cy wx wy rs = true) {n : Nat} (hn : n ≤ 12) {y : Bx} (hy : BdB y) (hp : possB cx cy wx wy rs = false) (j : Nat) : heldAt cx cy wx wy rs n j y = none := by
  cases q : heldAt cx cy wx wy rs n j y with
  | none => rfl
  | some s =>
    exfalso
    have h1 := heldAt_can cx cy wx wy rs n j y
    rw [q] at h1
    have hm : ∀ m ∈ [heldB n y], HeldOk m := fun m q => by
      simp only [List.mem_singleton] at q
      subst q
      exact held_box hn hy
    have := posH_sub h (ms := [heldB n y]) (ms' := []) hm (fun m q => by cases q) (by rw [posH_one]; exact h1.symm)
    rw [posH_nil, hp] at this
    cases this
theorem prv_poss {ss hs : List Pt} {cx cy wx wy : Sp} {rs : List Rdg} {err : Int} (h : suitB (machB ss cx cy wx wy rs) ss hs err = true) {n : Nat} (hn : n ≤ 12) (hp : possB cx cy wx wy rs = false) (j : Nat) : prvL (heldAt cx cy wx wy rs n j) (boxL err ss hs) = none := by
  obtain ⟨h1, h2, h3, h4, h5⟩ := suit_pts h
  have hm := (suit_small h).1
  have key : ∀ l : List Bx, (∀ y ∈ l, BdB y) → prvL (heldAt cx cy wx wy rs n j) l = none := by
    intro l
    unfold prvL
    induction l with
    | nil => intro _; rfl
    | cons y r ih =>
      intro hl
      have e : prvStep (heldAt cx cy wx wy rs n j) none y = none := by
        unfold prvStep
        rw [held_poss hm hn (hl y (by simp)) hp j]
      rw [List.foldl_cons, e]
      exact ih fun z hz => hl z (by simp [hz])
  exact key _ fun y hy => (boxL_bd h1 h2 h3 h4 h5 y hy).1
set_option maxHeartbeats 8000000 in
theorem T10 (sa ra ha : AV) (err at_ blank : Int) (cx cy wx wy : Sp) (st hs : List Pt) (rs : List Rdg) (hl : isSl sa (st.map ptC.enc)) (hr : isSl ra (rs.map rdgC.enc)) (hh : isSl ha (hs.map ptC.enc)) :
    ClR (dX c10) 10 [.agg [sa, .int .i64 cx.lo, .int .i64 cx.hi, .int .i64 cy.lo, .int .i64 cy.hi, .int .i64 wx.lo, .int .i64 wx.hi, .int .i64 wy.lo, .int .i64 wy.hi, ra], .agg [ha, .int .i64 err], .int .i64 at_, .int .i64 blank] emptyHp (isRet (.bool true)) := by
  have o1 := hh.out
  have o2 := hl.out
  have o3 := hr.out
  have t1 := hh.tup
  have t2 := hl.tup
  have t3 := hr.tup
  have hp1 := hl.pur (enc_pur ptC st)
  have hp2 := hr.pur (enc_pur rdgC rs)
  have ln1 : lenS sa = some st.length := by rw [hl.len, List.length_map]
  have ln2 : lenS ha = some hs.length := by rw [hh.len, List.length_map]
  have on : ∀ {a : AV} {es : List AV}, isSl a es → a.one = true := fun h => by rcases h with ⟨rfl | rfl, _⟩ | rfl <;> rfl
  have n1 := on hh
  have n2 := on hl
  have n3 := on hr
  have k25 : ∀ h, Cl (dX c10) 25 [] h (.ret (.bool true) h none) := fun h => K25 rfl h
  have K38 : ∀ h, Cl (dX c10) 38 [.agg [sa, .int .i64 cx.lo, .int .i64 cx.hi, .int .i64 cy.lo, .int .i64 cy.hi, .int .i64 wx.lo, .int .i64 wx.hi, .int .i64 wy.lo, .int .i64 wy.hi, ra]] h (.ret (.bool (decide ((st.length : Int) ≤ 6) && decide ((rs.length : Int) ≤ 6))) h none) := fun h => by
    have h1 := slLen_mk hl
    have h2 := slLen_mk hr
    exact Cl.intr (g := pureFn sp38) rfl (by simp [pureFn, AV.pur, AV.purL, hp1, hp2, sp38, h1, h2])
  have K54' := fun h => K54 (X := dX c10) rfl ha _ err hh (enc_pur ptC hs) h
  rw [List.length_map] at K54'
  simp only [isTuple] at t1 t2 t3
  by_cases g : (decide ((st.length : Int) ≤ 6) && decide ((rs.length : Int) ≤ 6)) = true ∧ decide ((hs.length : Int) ≤ 6) = true
  · obtain ⟨ga, gb⟩ := g
    have k38 := K38
    have k54 := K54'
    rw [ga] at k38
    rw [gb] at k54
    have g1 := ga
    have g2 := gb
    simp only [Bool.and_eq_true, decide_eq_true_eq] at g1 g2
    have v1 : slV ptC ha = some hs := slV_mk hh (by unfold maxL; omega)
    have v2 : slV ptC sa = some st := slV_mk hl (by unfold maxL; omega)
    have v3 : slV rdgC ra = some rs := slV_mk hr (by unfold maxL; omega)
    have k55 := fun h => K55 (X := dX c10) rfl sa ra ha st hs rs cx cy wx wy err at_ blank h (.of v2 _) (.of v3 _) (.of v1 _)
    have k40 : ∀ h, Cl (dX c10) 40 [.agg [sa, .int .i64 cx.lo, .int .i64 cx.hi, .int .i64 cy.lo, .int .i64 cy.hi, .int .i64 wx.lo, .int .i64 wx.hi, .int .i64 wy.lo, .int .i64 wy.hi, ra]] h (.ret (.int .i64 (ableI (machB st cx cy wx wy rs) (possB cx cy wx wy rs))) h none) := fun h => Cl.intr (g := pureFn sp40) rfl (by
      simp only [pureFn, AV.pur, AV.purL, hp1, hp2, Bool.and_self, if_true, sp40, v2, v3]
      rfl)
    have k51 := fun h => K51 (X := dX c10) rfl ha hs err v1 h
    have k56 : ∀ su, su = suitB (machB st cx cy wx wy rs) st hs err → su = true → inB at_ 1 12 = true → inB blank 0 12 = true → ∀ h, Cl (dX c10) 56 [.agg [sa, .int .i64 cx.lo, .int .i64 cx.hi, .int .i64 cy.lo, .int .i64 cy.hi, .int .i64 wx.lo, .int .i64 wx.hi, .int .i64 wy.lo, .int .i64 wy.hi, ra], .agg [ha, .int .i64 err], .int .i64 at_, .int .i64 blank] h (.ret (prvR (prvL (heldAt cx cy wx wy rs at_.toNat blank.toNat) (boxL err st hs))) h none) := fun su e0 e1 e2 e3 h => Cl.intr (g := pureFn sp56) rfl (by
      subst e0
      simp only [pureFn, AV.pur, AV.purL, sl_pur v1, hp1, hp2, Bool.and_self, if_true, sp56, v1, v2, v3]
      rw [if_pos (by rw [Bool.and_eq_true, Bool.and_eq_true]; exact ⟨⟨e1, e2⟩, e3⟩)])
    have hnone : suitB (machB st cx cy wx wy rs) st hs err = true → inB at_ 1 12 = true → possB cx cy wx wy rs = false → prvL (heldAt cx cy wx wy rs at_.toNat blank.toNat) (boxL err st hs) = none := fun q1 q2 q3 => by
      simp only [inB, Bool.and_eq_true, decide_eq_true_eq] at q2
      exact prv_poss q1 (by omega) q3 _
    have hsu : suitB (machB st cx cy wx wy rs) st hs err = (machB st cx cy wx wy rs && butB hs err && decide (hs.length = st.length)) := by unfold suitB; rfl
    have hle : ((hs.length : Int) != (st.length : Int)) = !decide (hs.length = st.length) := by
      rw [Bool.eq_iff_iff]
      simp
      omega
    have h48 := eq48
    have tt : (true && true) = true := rfl
    clear hl hr hh hp1 hp2 v1 v2 v3 K38 K54' ga gb g1 g2
    generalize prvL (heldAt cx cy wx wy rs at_.toNat blank.toNat) (boxL err st hs) = res at *
    generalize suitB (machB st cx cy wx wy rs) st hs err = su at *
    generalize machB st cx cy wx wy rs = mb at *
    generalize possB cx cy wx wy rs = po at *
    generalize butB hs err = bu at *
    generalize decide (hs.length = st.length) = le at *
    have HK56 := Lib.hid k56
    have HNO := Lib.hid hnone
    clear k56 hnone
    refine ClR.walk (c := _) rfl Tryz.func10 rfl (by kernel_rfl) rfl isRet_fail ?_
    simp only [entryEnv, Nat.reduceAdd, emptyHp]
    have hcase : (bu = false ∧ su = false) ∨ (bu = true ∧ le = false ∧ su = false) ∨ (bu = true ∧ le = true ∧ inB at_ 1 12 = false) ∨ (bu = true ∧ le = true ∧ inB at_ 1 12 = true ∧ inB blank 0 12 = false) ∨ (bu = true ∧ le = true ∧ inB at_ 1 12 = true ∧ inB blank 0 12 = true ∧ mb = false ∧ su = false) ∨ (bu = true ∧ le = true ∧ inB at_ 1 12 = true ∧ inB blank 0 12 = true ∧ mb = true ∧ su = true) := by
      rw [hsu]
      cases bu <;> cases le <;> cases inB at_ 1 12 <;> cases inB blank 0 12 <;> cases mb <;> simp
    have HK41a := fun h => K41 (X := dX c10) rfl at_ 1 h
    have HK41b := fun h => K41 (X := dX c10) rfl blank 0 h
    rcases hcase with ⟨rfl, q1⟩ | ⟨rfl, rfl, q1⟩ | ⟨rfl, rfl, q1⟩ | ⟨rfl, rfl, q1, q2⟩ | ⟨rfl, rfl, q1, q2, rfl, q3⟩ | ⟨rfl, rfl, q1, q2, rfl, q3⟩
    · subst q1
      simp only [Bool.false_and, prvV, Bool.false_eq_true, if_false] at k55
      generalize ableI mb po = ab at *
      clear hsu hle HK56 HNO
      repeat' (first | refine goS ?_ | (apply U6; exact Z1; exact Z1; (focus (simp only [List.nil_append, List.append_nil]; first | exact k25 _ | exact k38 _ | exact k54 _ | exact k55 _ | exact k40 _ | exact k51 _ | exact K41 rfl _ _ _)); simp only [pM, pN, rR, rP]) | refine go2 (fun hh => ?_) (fun hh => ?_) | fail)
      all_goals simp only [resV_def (X := dX c10) Tryz.func10, Tryz.results10, resultsV, resultV, go_sem, *, Nat.reduceLT, Int.reduceEq, Int.reduceBEq, Int.reduceLE, Int.reduceLT, Nat.reduceAdd, Nat.reduceBEq, Nat.reduceEqDiff, reduceIte, Nat.reduceLeDiff, Nat.reduceMul, Nat.reduceSub, reduceCtorEq, frzRes, dFrz, frzCells, isRet_ret, tupleOf]
    · subst q1
      simp only [Bool.false_and, prvV, Bool.false_eq_true, if_false, Bool.not_false] at k55 hle
      generalize ableI mb po = ab at *
      clear hsu HK56 HNO
      repeat' (first | refine goS ?_ | (apply U6; exact Z1; exact Z1; (focus (simp only [List.nil_append, List.append_nil]; first | exact k25 _ | exact k38 _ | exact k54 _ | exact k55 _ | exact k40 _ | exact k51 _ | exact K41 rfl _ _ _)); simp only [pM, pN, rR, rP]) | refine go2 (fun hh => ?_) (fun hh => ?_) | fail)
      all_goals simp only [resV_def (X := dX c10) Tryz.func10, Tryz.results10, resultsV, resultV, go_sem, *, Nat.reduceLT, Int.reduceEq, Int.reduceBEq, Int.reduceLE, Int.reduceLT, Nat.reduceAdd, Nat.reduceBEq, Nat.reduceEqDiff, reduceIte, Nat.reduceLeDiff, Nat.reduceMul, Nat.reduceSub, reduceCtorEq, frzRes, dFrz, frzCells, isRet_ret, tupleOf]
    · simp only [q1, Bool.and_false, Bool.false_and, prvV, Bool.false_eq_true, if_false, Bool.not_true] at k55 hle HK41a
      generalize ableI mb po = ab at *
      clear hsu HK56 HNO
      repeat' (first | refine goS ?_ | (apply U6; exact Z1; exact Z1; (focus (simp only [List.nil_append, List.append_nil]; first | exact k25 _ | exact k38 _ | exact k54 _ | exact k55 _ | exact k40 _ | exact k51 _ | exact K41 rfl _ _ _)); simp only [pM, pN, rR, rP]) | refine go2 (fun hh => ?_) (fun hh => ?_) | fail)
      all_goals simp only [resV_def (X := dX c10) Tryz.func10, Tryz.results10, resultsV, resultV, go_sem, *, Nat.reduceLT, Int.reduceEq, Int.reduceBEq, Int.reduceLE, Int.reduceLT, Nat.reduceAdd, Nat.reduceBEq, Nat.reduceEqDiff, reduceIte, Nat.reduceLeDiff, Nat.reduceMul, Nat.reduceSub, reduceCtorEq, frzRes, dFrz, frzCells, isRet_ret, tupleOf]
    · simp only [q2, Bool.and_false, Bool.false_and, prvV, Bool.false_eq_true, if_false, Bool.not_true] at k55 hle
      generalize ableI mb po = ab at *
      clear hsu HK56 HNO
      repeat' (first | refine goS ?_ | (apply U6; exact Z1; exact Z1; (focus (simp only [List.nil_append, List.append_nil]; first | exact k25 _ | exact k38 _ | exact k54 _ | exact k55 _ | exact k40 _ | exact k51 _ | exact K41 rfl _ _ _)); simp only [pM, pN, rR, rP]) | refine go2 (fun hh => ?_) (fun hh => ?_) | fail)
      all_goals simp only [resV_def (X := dX c10) Tryz.func10, Tryz.results10, resultsV, resultV, go_sem, *, Nat.reduceLT, Int.reduceEq, Int.reduceBEq, Int.reduceLE, Int.reduceLT, Nat.reduceAdd, Nat.reduceBEq, Nat.reduceEqDiff, reduceIte, Nat.reduceLeDiff, Nat.reduceMul, Nat.reduceSub, reduceCtorEq, frzRes, dFrz, frzCells, isRet_ret, tupleOf]
    · subst q3
      simp only [Bool.false_and, prvV, Bool.false_eq_true, if_false, Bool.not_true, ableI] at k55 hle k40
      clear hsu HK56 HNO
      repeat' (first | refine goS ?_ | (apply U6; exact Z1; exact Z1; (focus (simp only [List.nil_append, List.append_nil]; first | exact k25 _ | exact k38 _ | exact k54 _ | exact k55 _ | exact k40 _ | exact k51 _ | exact K41 rfl _ _ _)); simp only [pM, pN, rR, rP]) | refine go2 (fun hh => ?_) (fun hh => ?_) | fail)
      all_goals simp only [resV_def (X := dX c10) Tryz.func10, Tryz.results10, resultsV, resultV, go_sem, *, Nat.reduceLT, Int.reduceEq, Int.reduceBEq, Int.reduceLE, Int.reduceLT, Nat.reduceAdd, Nat.reduceBEq, Nat.reduceEqDiff, reduceIte, Nat.reduceLeDiff, Nat.reduceMul, Nat.reduceSub, reduceCtorEq, frzRes, dFrz, frzCells, isRet_ret, tupleOf]
    · subst q3
      simp only [q1, q2, Bool.and_self, prvV, if_true, Bool.not_true, ableI] at k55 hle k40
      cases po with
      | false =>
        have hn := HNO.out rfl q1 rfl
        subst hn
        simp only [Bool.false_eq_true, if_false] at k40
        clear hsu HK56 HNO
        repeat' (first | refine goS ?_ | (apply U6; exact Z1; exact Z1; (focus (simp only [List.nil_append, List.append_nil]; first | exact k25 _ | exact k38 _ | exact k54 _ | exact k55 _ | exact k40 _ | exact k51 _ | exact K41 rfl _ _ _)); simp only [pM, pN, rR, rP]) | refine go2 (fun hh => ?_) (fun hh => ?_) | fail)
        all_goals simp only [resV_def (X := dX c10) Tryz.func10, Tryz.results10, resultsV, resultV, go_sem, *, Nat.reduceLT, Int.reduceEq, Int.reduceBEq, Int.reduceLE, Int.reduceLT, Nat.reduceAdd, Nat.reduceBEq, Nat.reduceEqDiff, reduceIte, Nat.reduceLeDiff, Nat.reduceMul, Nat.reduceSub, reduceCtorEq, frzRes, dFrz, frzCells, isRet_ret, tupleOf]
      | true =>
        simp only [if_true] at k40
        have k56 := HK56.out true rfl rfl q1 q2
        clear hsu HK56 HNO
        cases res with
        | none =>
          simp only [prvR] at k56
          repeat' (first | refine goS ?_ | (apply U6; exact Z1; exact Z1; (focus (simp only [List.nil_append, List.append_nil]; first | exact k25 _ | exact k38 _ | exact k54 _ | exact k55 _ | exact k40 _ | exact k51 _ | exact K41 rfl _ _ _ | exact k56 _)); simp only [pM, pN, rR, rP]) | refine go2 (fun hh => ?_) (fun hh => ?_) | fail)
          all_goals simp only [resV_def (X := dX c10) Tryz.func10, Tryz.results10, resultsV, resultV, go_sem, *, Nat.reduceLT, Int.reduceEq, Int.reduceBEq, Int.reduceLE, Int.reduceLT, Nat.reduceAdd, Nat.reduceBEq, Nat.reduceEqDiff, reduceIte, Nat.reduceLeDiff, Nat.reduceMul, Nat.reduceSub, reduceCtorEq, frzRes, dFrz, frzCells, isRet_ret, tupleOf]
        | some b =>
          simp only [prvR, spC] at k56 k55
          have x1 : ∀ n : Int, (n == n) = true := fun n => by simp
          repeat' (first | refine goS ?_ | (apply U6; exact Z1; exact Z1; (focus (simp only [List.nil_append, List.append_nil]; first | exact k25 _ | exact k38 _ | exact k54 _ | exact k55 _ | exact k40 _ | exact k51 _ | exact K41 rfl _ _ _ | exact k56 _)); simp only [pM, pN, rR, rP]) | refine go2 (fun hh => ?_) (fun hh => ?_) | fail)
          all_goals simp only [resV_def (X := dX c10) Tryz.func10, Tryz.results10, resultsV, resultV, go_sem, *, Nat.reduceLT, Int.reduceEq, Int.reduceBEq, Int.reduceLE, Int.reduceLT, Nat.reduceAdd, Nat.reduceBEq, Nat.reduceEqDiff, reduceIte, Nat.reduceLeDiff, Nat.reduceMul, Nat.reduceSub, reduceCtorEq, frzRes, dFrz, frzCells, isRet_ret, tupleOf]
  · have hcase : (decide ((st.length : Int) ≤ 6) && decide ((rs.length : Int) ≤ 6)) = false ∨ ((decide ((st.length : Int) ≤ 6) && decide ((rs.length : Int) ≤ 6)) = true ∧ decide ((hs.length : Int) ≤ 6) = false) := by
      cases q : (decide ((st.length : Int) ≤ 6) && decide ((rs.length : Int) ≤ 6)) with
      | false => exact .inl rfl
      | true => exact .inr ⟨rfl, by rw [Bool.eq_false_iff]; intro q2; exact g ⟨q, q2⟩⟩
    have k38 := K38
    have k54 := K54'
    clear hl hr hh hp1 hp2 K38 K54' g
    generalize (decide ((st.length : Int) ≤ 6) && decide ((rs.length : Int) ≤ 6)) = sl at *
    generalize decide ((hs.length : Int) ≤ 6) = dh at *
    refine ClR.walk (c := _) rfl Tryz.func10 rfl (by kernel_rfl) rfl isRet_fail ?_
    simp only [entryEnv, Nat.reduceAdd, emptyHp]
    rcases hcase with rfl | ⟨rfl, rfl⟩
    all_goals (
      repeat' (first | refine goS ?_ | (apply U6; exact Z1; exact Z1; (focus (simp only [List.nil_append, List.append_nil]; first | exact k38 _ | exact k54 _ | exact k25 _)); simp only [pM, pN, rR, rP]) | refine go2 (fun hh => ?_) (fun hh => ?_) | fail)
      all_goals simp only [resV_def (X := dX c10) Tryz.func10, Tryz.results10, resultsV, resultV, go_sem, *, Nat.reduceLT, Int.reduceEq, Int.reduceBEq, Int.reduceLE, Int.reduceLT, Nat.reduceAdd, Nat.reduceBEq, Nat.reduceEqDiff, reduceIte, Nat.reduceLeDiff, Nat.reduceMul, Nat.reduceSub, reduceCtorEq, frzRes, dFrz, frzCells, isRet_ret, tupleOf])
end Go.AM
