/-
  Gauge: the program's.
-/
import Derived.Test.YtlhcjccaimmhgaaGreatDoorFnQ
set_option linter.unusedSectionVars false
set_option linter.unusedVariables false
set_option linter.unusedSimpArgs false
set_option maxRecDepth 100000
namespace Go.AM
open Go Go.Proofs
variable [Keep]
attribute [local irreducible] W WO WO1 WD WQ WT thenQ blockQ endR isRet retK Cl ClR
attribute [local irreducible] matchS boundsS machB measB sureW goodB askOk heldI
end Go.AM
set_option maxRecDepth 100000
namespace Go.AM
open Go Go.Proofs
variable [Keep]
attribute [local irreducible] W WO WO1 WD WQ WT thenQ blockQ endR isRet retK Cl ClR
attribute [local irreducible] matchS goodB goodR boundsS machB measB sureW
def gaugeN (f : Nat → Int) : Nat := ((List.range 12).findSome? fun n => if f (n + 1) = 3 then none else some n).getD 12
theorem gauge_at {f : Nat → Int} {i : Nat} (h : ∀ j, j < i → f (j + 1) = 3) (hi : i < 12) (hn : f (i + 1) ≠ 3) : gaugeN f = i := by
  unfold gaugeN
  rw [find_some (i := i) (o := i) (fun j hj => if_pos (h j hj)) (if_neg hn) hi]
  rfl
theorem gauge_all {f : Nat → Int} (h : ∀ j, j < 12 → f (j + 1) = 3) : gaugeN f = 12 := by
  unfold gaugeN
  rw [find_none fun j hj => if_pos (h j hj)]
  rfl
def sureAt (G : Pt → Bool) (a b : List Sp) (n : Nat) : Int := sureW G (a.getD n ⟨0, 0⟩) (b.getD n ⟨0, 0⟩)
noncomputable def cGU : FuncId → Option (List AV → Heap → Option (AV × Heap))
  | 100 => some (pureFn sp100)
  | 107 => some (pureFn sp107)
  | 138 => some (pureFn sp138)
  | _ => none
theorem cGU_sound : Sound (dX cGU) := dX_sound (fun f g h => by
  unfold cGU at h
  split at h
  · cases h; exact F100
  · cases h; exact F107
  · cases h; exact F138
  · cases h)
def gaugeF (ok : Bool) (A B : Option (List Sp)) (G : Pt → Bool) : AV :=
  if ok then (match A, B with
    | some a, some b => .tuple [.int .i64 (gaugeN (sureAt G a b) : Nat), .int .i64 0]
    | _, _ => .tuple [.int .i64 0, .int .i64 7]) else .tuple [.int .i64 0, .int .i64 2]
def sp46 : List AV → Option AV
  | [.agg [ca, .int .i64 off], .agg [sa, .int .i64 cxl, .int .i64 cxh, .int .i64 cyl, .int .i64 cyh, .int .i64 wxl, .int .i64 wxh, .int .i64 wyl, .int .i64 wyh, ra]] => match slV ptC ca, slV ptC sa, slV rdgC ra with
    | some hs, some st, some rs => some (gaugeF (askOk hs st off (machB st ⟨cxl, cxh⟩ ⟨cyl, cyh⟩ ⟨wxl, wxh⟩ ⟨wyl, wyh⟩ rs) true) (boundsS (ax0 ⟨cxl, cxh⟩ ⟨wxl, wxh⟩ rs [])) (boundsS (ax1 ⟨cyl, cyh⟩ ⟨wyl, wyh⟩ rs [])) (goodB off hs st))
    | _, _, _ => none
  | _ => none
theorem p46 : ∀ args v, sp46 args = some v → v.pur = true := by
  intro args v h
  unfold sp46 at h
  split at h
  · split at h
    · have h := Option.some.inj h
      subst h
      unfold gaugeF
      split
      · split <;> rfl
      · rfl
    · cases h
  · cases h
set_option maxHeartbeats 8000000 in
theorem F46 : IntrFn Tryz.prog 46 (pureFn sp46) := by
  refine pure_fn (X := dX cGU) cGU_sound p46 ?_
  intro args v h
  unfold sp46 at h
  split at h
  · rename_i ca off sa cxl cxh cyl cyh wxl wxh wyl wyh ra
    split at h
    · rename_i hs st rs hc hl hr
      have h := Option.some.inj h
      subst h
      have o1 := sl_out hc
      have o2 := sl_out hl
      have o3 := sl_out hr
      obtain ⟨one1, t1⟩ := sl_one hc
      obtain ⟨one2, t2⟩ := sl_one hl
      obtain ⟨one3, t3⟩ := sl_one hr
      have k107 : ∀ h, Cl (dX cGU) 107 [.agg [ca, .int .i64 off], .agg [sa, .int .i64 cxl, .int .i64 cxh, .int .i64 cyl, .int .i64 cyh, .int .i64 wxl, .int .i64 wxh, .int .i64 wyl, .int .i64 wyh, ra], .bool true] h (.ret (askV (askOk hs st off (machB st ⟨cxl, cxh⟩ ⟨cyl, cyh⟩ ⟨wxl, wxh⟩ ⟨wyl, wyh⟩ rs) true) (boundsS (ax0 ⟨cxl, cxh⟩ ⟨wxl, wxh⟩ rs [])) (boundsS (ax1 ⟨cyl, cyh⟩ ⟨wyl, wyh⟩ rs []))) h none) := fun h => Cl.intr (g := pureFn sp107) rfl (by simp [pureFn, AV.pur, AV.purL, sl_pur hc, sl_pur hl, sl_pur hr, sp107, hc, hl, hr])
      have h102 := fun n m => C102 cGU rfl sa ra ⟨cxl, cxh⟩ ⟨cyl, cyh⟩ ⟨wxl, wxh⟩ ⟨wyl, wyh⟩ (slV_is hl).1.frz1 (slV_is hr).1.frz1 n m
      have H102 := Lib.hid h102
      have b20 : ((2 : Int) != 0) = true := rfl
      have b70 : ((7 : Int) != 0) = true := rfl
      have b00 : ((0 : Int) != 0) = false := rfl
      by_cases hall : ∃ a b, askOk hs st off (machB st ⟨cxl, cxh⟩ ⟨cyl, cyh⟩ ⟨wxl, wxh⟩ ⟨wyl, wyh⟩ rs) true = true ∧ boundsS (ax0 ⟨cxl, cxh⟩ ⟨wxl, wxh⟩ rs []) = some a ∧ boundsS (ax1 ⟨cyl, cyh⟩ ⟨wyl, wyh⟩ rs []) = some b
      · obtain ⟨a, b, hok, hA, hB⟩ := hall
        obtain ⟨m1, m2, hlen, hin, hl1, hl8⟩ := ask_ok hok
        rw [hok, hA, hB] at k107
        rw [hok, hA, hB]
        simp only [askV, if_true] at k107
        simp only [gaugeF, if_true]
        have hla := boundsS_len hA
        have hlb := boundsS_len hB
        have ea : slN (a.map spC.enc) = .vslice (a.map spC.enc) := by cases a with | nil => simp at hla | cons x l => rfl
        have eb : slN (b.map spC.enc) = .vslice (b.map spC.enc) := by cases b with | nil => simp at hlb | cons x l => rfl
        simp only [ea, eb] at k107
        have hcl1 := fun (p q : Sp) (hp : SpOk p) (hq : SpOk q) (h : Heap) (tb : List (Pt × Bool)) (q1 : h.get 0 = some (.mp (encT tb))) (q2 : TabOk (goodB off hs st) tb) => C108 cGU rfl rfl rfl rfl sa ra ca ⟨cxl, cxh⟩ ⟨cyl, cyh⟩ ⟨wxl, wxh⟩ ⟨wyl, wyh⟩ st hs off p q 0 h tb hl one3 t3 o3 hc hlen hl1 hl8 hp hq q1 q2
        have hsp := fun k (hk : k ≤ 12) => spans_ok m2 hA hB (k := k) hk
        have HSP := Lib.hid hsp
        have HLA := Lib.hid hla
        have HLB := Lib.hid hlb
        have HCL := Lib.hid hcl1
        have hi1 := fun k (p : Sp) (hp : a[k]? = some p) (H : Heap) => sp_idx hp H
        have hi2 := fun k (p : Sp) (hp : b[k]? = some p) (H : Heap) => sp_idx hp H
        have HI1 := Lib.hid hi1
        have HI2 := Lib.hid hi2
        have i0 := ix147_0
        have i1 := ix147_1
        have hsa : ∀ n, sureAt (goodB off hs st) a b n = sureW (goodB off hs st) (a.getD n ⟨0, 0⟩) (b.getD n ⟨0, 0⟩) := fun _ => rfl
        have HSA := Lib.hid hsa
        generalize goodB off hs st = G at *
        generalize hgn : gaugeN (sureAt G a b) = gn at *
        have HGN := Lib.hid hgn
        generalize sureAt G a b = sat at *
        generalize a.map spC.enc = la at *
        generalize b.map spC.enc = lb at *
        clear hc hl hr h102 hok hA hB hla hlb ea eb hsp hcl1 hi1 hi2 hsa hgn m1 m2 hlen hin hl1 hl8
        refine ClR.walk (c := _) rfl Tryz.func46 rfl (by kernel_rfl) rfl isRet_fail ?_
        simp only [entryEnv, Nat.reduceAdd, emptyHp]
        repeat' (first | refine Y1 ?_ | refine U7 ?_ | refine U8 ?_ | refine U9 ?_ | refine Y2 ?_ | ((first | refine Y3 ?_ | refine Y8 ?_); simp only [tN, bN, eN, true_and]) | (apply U4; exact Z1; exact rfl; simp only [pM, pN, rR, rP]) | (refine J3 rfl rfl ?_ ?_; exact Z2) | (refine J4 rfl rfl ?_ ?_; exact Z2; simp only [pM, pN, rR, rP]) | (apply U3; exact rfl; exact rfl; exact Z1; refine ⟨fun hh => ?_, fun hh => ?_⟩ <;> try simp only [Bool.not_true, Bool.not_false, pM, pN] at hh ⊢) | (apply U6; exact Z1; exact Z1; (focus (simp only [List.nil_append, List.append_nil]; first | exact k107 _ | exact H102.out _ _)); simp only [pM, pN, rR, rP]) | (apply U5; exact rfl; exact Z3; simp only [pM, pN, rR, rP]) | (simp only [tP, bP, eP, true_and]) | (refine Y7 ?_; simp only [tR, bR, eR, true_and]) | (refine Y9 ?_; simp only [tX, bS, bO, Nat.reduceBEq, tN, bN]) | (refine Y4 ?_ ?_; exact Z2) | (refine Y5 ?_ ?_; exact Z2) | (apply Y6; exact Z1; refine ⟨fun hh => ?_, fun hh => ?_⟩))
        refine W.loopN 12 (fun i F => ∃ e lm hp tb, F = Fr.mk 46 false e lm hp [] none ∧ (hp.get 0 = some (.mp (encT tb)) ∧ TabOk G tb) ∧ (∀ j, j < i → sat (j + 1) = 3) ∧
          lm.get 2 = some (0, [ca, .int .i64 off]) ∧ lm.get 6 = some (0, [.vslice la, .vslice lb]) ∧ lm.get 8 = some (0, [sa, .int .i64 cxl, .int .i64 cxh, .int .i64 cyl, .int .i64 cyh, .int .i64 wxl, .int .i64 wxh, .int .i64 wyl, .int .i64 wyh, ra, .map 0]) ∧
          e.get 2 = some (.lptr 2 0 0) ∧ e.get 6 = some (.lptr 6 0 0) ∧ e.get 8 = some (.lptr 8 0 0) ∧ e.get 9 = some (.int .i64 ↑i) ∧ i ≤ 12) ?_ ?_
        · refine ⟨_, _, _, [], rfl, ⟨rfl, fun e he => by simp at he⟩, fun j hj => absurd hj (by omega), ?_, ?_, ?_, ?_, ?_, ?_, ?_, Nat.zero_le _⟩ <;> first | exact Z2 | simp [go_sem, *]
        clear k107 H102
        rintro i F ⟨e, lm, hp, tb, rfl, hhp, hall, m2, m6, m8, e2, e6, e8, e9, hi⟩
        have HHP := Lib.hid hhp
        have HALL := Lib.hid hall
        clear hhp hall
        by_cases hlt : i < 12
        · have hd : decide ((i : Int) < 12) = true := by simp; omega
          have hw := wrap_succ (m := 12) hlt (by unfold maxL; omega)
          obtain ⟨p, hp'⟩ := get_some (show i + 1 < a.length by rw [HLA.out]; omega)
          obtain ⟨q, hq'⟩ := get_some (show i + 1 < b.length by rw [HLB.out]; omega)
          have hx1 := HI1.out (i + 1) p hp'
          have hx2 := HI2.out (i + 1) q hq'
          have hspq := HSP.out (i + 1) (by omega)
          have g1 : a.getD (i + 1) ⟨0, 0⟩ = p := by simp [List.getD, hp']
          have g2 : b.getD (i + 1) ⟨0, 0⟩ = q := by simp [List.getD, hq']
          have hst := HSA.out (i + 1)
          rw [g1, g2] at hspq hst
          have hcl0 := HCL.out p q hspq.1 hspq.2 hp tb HHP.out.1 HHP.out.2
          unfold ClR at hcl0
          obtain ⟨r, hcl, hcr⟩ := hcl0
          unfold sureR at hcr
          obtain ⟨hp2, tb2, rfl, _, n2, n3, _⟩ := hcr
          have HN := Lib.hid (show hp2.get 0 = some (.mp (encT tb2)) ∧ TabOk G tb2 from ⟨n2, n3⟩)
          generalize sureW G p q = w at *
          have HST := Lib.hid hst
          clear hp' hq' hspq g1 g2 hst n2 n3
          by_cases hw3 : w = 3
          · have b33 : (w == 3) = true := by simp [hw3]
            have HW := Lib.hid hw3
            clear hw3
            repeat' (first | (apply W.drawQ (id := 6) (l1 := [0, 1, 2, 3, 4, 5, 6, 7, 8, 9, 10, 11, 12, 13, 14, 15, 16]) (l2 := [17, 18, 19]); kernel_rfl; kernel_rfl; kernel_rfl; exact Z4) | (apply W.drawQ (id := 6) (l1 := [0, 1, 2, 3, 4, 5, 6, 7, 8, 9, 10, 11, 12, 13, 14, 15, 16, 17, 18, 19]) (l2 := []); kernel_rfl; kernel_rfl; kernel_rfl; exact Z4) | (refine ⟨⟨trivial, trivial⟩, ?_⟩) | (refine ⟨⟨rfl, rfl⟩, ?_⟩) | (refine Z5 rfl rfl ?_) | (refine Z8 rfl rfl ?_) | (refine Z6 ?_) | (refine Z9 ?_; simp only [tN, bN, eN, true_and]) | (apply Z7; exact rfl; exact rfl; exact Z1; simp only [pM, pN]) | refine Y1 ?_ | refine U7 ?_ | refine U8 ?_ | refine U9 ?_ | refine Y2 ?_ | ((first | refine Y3 ?_ | refine Y8 ?_); simp only [tN, bN, eN, true_and]) | (apply U4; exact Z1; exact rfl; simp only [pM, pN, rR, rP]) | (refine J3 rfl rfl ?_ ?_; exact Z2) | (refine J4 rfl rfl ?_ ?_; exact Z2; simp only [pM, pN, rR, rP]) | (apply U3; exact rfl; exact rfl; exact Z1; refine ⟨fun hh => ?_, fun hh => ?_⟩ <;> try simp only [Bool.not_true, Bool.not_false, pM, pN] at hh ⊢) | (apply U6; exact Z1; exact Z1; (focus (simp only [List.nil_append, List.append_nil]; first | exact hcl)); simp only [pM, pN, rR, rP]) | (apply U5; exact rfl; exact Z3; simp only [pM, pN, rR, rP]) | (simp only [tP, bP, eP, true_and]) | (refine Y7 ?_; simp only [tR, bR, eR, true_and]) | (refine Y9 ?_; simp only [tX, bS, bO, Nat.reduceBEq, tN, bN]) | (refine Y4 ?_ ?_; exact Z2) | (refine Y5 ?_ ?_; exact Z2) | (apply Y6; exact Z1; refine ⟨fun hh => ?_, fun hh => ?_⟩))
            refine ⟨hlt, _, _, hp2, tb2, rfl, HN.out, fun j hj => ?_, ?_, ?_, ?_, ?_, ?_, ?_, ?_, by omega⟩
            · rcases Nat.lt_or_ge j i with c | c
              · exact HALL.out j c
              · obtain rfl : j = i := by omega
                rw [HST.out]; exact HW.out
            all_goals exact Z2
          · have b33 : (w == 3) = false := by simp [hw3]
            have HG := Lib.hid (gauge_at HALL.out hlt (by rw [HST.out]; exact hw3))
            clear hw3
            repeat' (first | (apply W.drawQ (id := 6) (l1 := [0, 1, 2, 3, 4, 5, 6, 7, 8, 9, 10, 11, 12, 13, 14, 15, 16]) (l2 := [17, 18, 19]); kernel_rfl; kernel_rfl; kernel_rfl; exact Z4) | (apply W.drawQ (id := 6) (l1 := [0, 1, 2, 3, 4, 5, 6, 7, 8, 9, 10, 11, 12, 13, 14, 15, 16, 17, 18, 19]) (l2 := []); kernel_rfl; kernel_rfl; kernel_rfl; exact Z4) | (refine ⟨⟨trivial, trivial⟩, ?_⟩) | (refine ⟨⟨rfl, rfl⟩, ?_⟩) | (refine Z5 rfl rfl ?_) | (refine Z8 rfl rfl ?_) | (refine Z6 ?_) | (refine Z9 ?_; simp only [tN, bN, eN, true_and]) | (apply Z7; exact rfl; exact rfl; exact Z1; simp only [pM, pN]) | refine Y1 ?_ | refine U7 ?_ | refine U8 ?_ | refine U9 ?_ | refine Y2 ?_ | ((first | refine Y3 ?_ | refine Y8 ?_); simp only [tN, bN, eN, true_and]) | (apply U4; exact Z1; exact rfl; simp only [pM, pN, rR, rP]) | (refine J3 rfl rfl ?_ ?_; exact Z2) | (refine J4 rfl rfl ?_ ?_; exact Z2; simp only [pM, pN, rR, rP]) | (apply U3; exact rfl; exact rfl; exact Z1; refine ⟨fun hh => ?_, fun hh => ?_⟩ <;> try simp only [Bool.not_true, Bool.not_false, pM, pN] at hh ⊢) | (apply U6; exact Z1; exact Z1; (focus (simp only [List.nil_append, List.append_nil]; first | exact hcl)); simp only [pM, pN, rR, rP]) | (apply U5; exact rfl; exact Z3; simp only [pM, pN, rR, rP]) | (simp only [tP, bP, eP, true_and]) | (refine Y7 ?_; simp only [tR, bR, eR, true_and]) | (refine Y9 ?_; simp only [tX, bS, bO, Nat.reduceBEq, tN, bN]) | (refine Y4 ?_ ?_; exact Z2) | (refine Y5 ?_ ?_; exact Z2) | (apply Y6; exact Z1; refine ⟨fun hh => ?_, fun hh => ?_⟩))
            all_goals simp only [resV_def (X := dX cGU) Tryz.func46, Tryz.results46, resultsV, resultV, go_sem, *, Nat.reduceLT, Int.reduceEq, Int.reduceBEq, Int.reduceLE, Int.reduceLT, Nat.reduceAdd, Nat.reduceBEq, Nat.reduceEqDiff, reduceIte, Nat.reduceLeDiff, Nat.reduceMul, Nat.reduceSub, reduceCtorEq, frzRes, dFrz, frzCells, isRet_ret, tupleOf]
            rw [← HGN.out, HG.out]
        · have hd : decide ((i : Int) < 12) = false := by simp; omega
          have hi12 : i = 12 := by omega
          have HG := Lib.hid (gauge_all (f := sat) fun j hj => HALL.out j (by omega))
          subst hi12
          clear hlt hi
          repeat' (first | (apply W.drawQ (id := 6) (l1 := [0, 1, 2, 3, 4, 5, 6, 7, 8, 9, 10, 11, 12, 13, 14, 15, 16]) (l2 := [17, 18, 19]); kernel_rfl; kernel_rfl; kernel_rfl; exact Z4) | (apply W.drawQ (id := 6) (l1 := [0, 1, 2, 3, 4, 5, 6, 7, 8, 9, 10, 11, 12, 13, 14, 15, 16, 17, 18, 19]) (l2 := []); kernel_rfl; kernel_rfl; kernel_rfl; exact Z4) | (refine ⟨⟨trivial, trivial⟩, ?_⟩) | (refine ⟨⟨rfl, rfl⟩, ?_⟩) | (refine Z5 rfl rfl ?_) | (refine Z8 rfl rfl ?_) | (refine Z6 ?_) | (refine Z9 ?_; simp only [tN, bN, eN, true_and]) | (apply Z7; exact rfl; exact rfl; exact Z1; simp only [pM, pN]) | refine Y1 ?_ | refine U7 ?_ | refine U8 ?_ | refine U9 ?_ | refine Y2 ?_ | ((first | refine Y3 ?_ | refine Y8 ?_); simp only [tN, bN, eN, true_and]) | (apply U4; exact Z1; exact rfl; simp only [pM, pN, rR, rP]) | (refine J3 rfl rfl ?_ ?_; exact Z2) | (refine J4 rfl rfl ?_ ?_; exact Z2; simp only [pM, pN, rR, rP]) | (apply U3; exact rfl; exact rfl; exact Z1; refine ⟨fun hh => ?_, fun hh => ?_⟩ <;> try simp only [Bool.not_true, Bool.not_false, pM, pN] at hh ⊢) | (apply U5; exact rfl; exact Z3; simp only [pM, pN, rR, rP]) | (simp only [tP, bP, eP, true_and]) | (refine Y7 ?_; simp only [tR, bR, eR, true_and]) | (refine Y9 ?_; simp only [tX, bS, bO, Nat.reduceBEq, tN, bN]) | (refine Y4 ?_ ?_; exact Z2) | (refine Y5 ?_ ?_; exact Z2) | (apply Y6; exact Z1; refine ⟨fun hh => ?_, fun hh => ?_⟩))
          all_goals simp only [resV_def (X := dX cGU) Tryz.func46, Tryz.results46, resultsV, resultV, go_sem, *, Nat.reduceLT, Int.reduceEq, Int.reduceBEq, Int.reduceLE, Int.reduceLT, Nat.reduceAdd, Nat.reduceBEq, Nat.reduceEqDiff, reduceIte, Nat.reduceLeDiff, Nat.reduceMul, Nat.reduceSub, reduceCtorEq, frzRes, dFrz, frzCells, isRet_ret, tupleOf]
          rw [← HGN.out, HG.out]
      · have hno : ∃ e : Int, askV (askOk hs st off (machB st ⟨cxl, cxh⟩ ⟨cyl, cyh⟩ ⟨wxl, wxh⟩ ⟨wyl, wyh⟩ rs) true) (boundsS (ax0 ⟨cxl, cxh⟩ ⟨wxl, wxh⟩ rs [])) (boundsS (ax1 ⟨cyl, cyh⟩ ⟨wyl, wyh⟩ rs [])) = .tuple [.agg [.nilslice, .nilslice], .int .i64 e] ∧ gaugeF (askOk hs st off (machB st ⟨cxl, cxh⟩ ⟨cyl, cyh⟩ ⟨wxl, wxh⟩ ⟨wyl, wyh⟩ rs) true) (boundsS (ax0 ⟨cxl, cxh⟩ ⟨wxl, wxh⟩ rs [])) (boundsS (ax1 ⟨cyl, cyh⟩ ⟨wyl, wyh⟩ rs [])) (goodB off hs st) = .tuple [.int .i64 0, .int .i64 e] ∧ (e != 0) = true := by
          generalize askOk hs st off (machB st ⟨cxl, cxh⟩ ⟨cyl, cyh⟩ ⟨wxl, wxh⟩ ⟨wyl, wyh⟩ rs) true = ok at *
          generalize boundsS (ax0 ⟨cxl, cxh⟩ ⟨wxl, wxh⟩ rs []) = A at *
          generalize boundsS (ax1 ⟨cyl, cyh⟩ ⟨wyl, wyh⟩ rs []) = B at *
          cases ok with
          | false => exact ⟨2, rfl, rfl, rfl⟩
          | true =>
            cases A with
            | none => exact ⟨7, rfl, rfl, rfl⟩
            | some a =>
              cases B with
              | none => exact ⟨7, rfl, rfl, rfl⟩
              | some b => exact absurd ⟨a, b, rfl, rfl, rfl⟩ hall
        obtain ⟨e, e1, e2, e3⟩ := hno
        rw [e1] at k107
        rw [e2]
        clear hc hl hr h102 H102 hall e1 e2
        refine ClR.walk (c := _) rfl Tryz.func46 rfl (by kernel_rfl) rfl isRet_fail ?_
        simp only [entryEnv, Nat.reduceAdd, emptyHp]
        repeat' (first | (refine ⟨⟨trivial, trivial⟩, ?_⟩) | (refine ⟨⟨rfl, rfl⟩, ?_⟩) | (refine Z5 rfl rfl ?_) | (refine Z8 rfl rfl ?_) | (refine Z6 ?_) | (refine Z9 ?_; simp only [tN, bN, eN, true_and]) | (apply Z7; exact rfl; exact rfl; exact Z1; simp only [pM, pN]) | refine Y1 ?_ | refine U7 ?_ | refine U8 ?_ | refine U9 ?_ | refine Y2 ?_ | ((first | refine Y3 ?_ | refine Y8 ?_); simp only [tN, bN, eN, true_and]) | (apply U4; exact Z1; exact rfl; simp only [pM, pN, rR, rP]) | (refine J3 rfl rfl ?_ ?_; exact Z2) | (refine J4 rfl rfl ?_ ?_; exact Z2; simp only [pM, pN, rR, rP]) | (apply U3; exact rfl; exact rfl; exact Z1; refine ⟨fun hh => ?_, fun hh => ?_⟩ <;> try simp only [Bool.not_true, Bool.not_false, pM, pN] at hh ⊢) | (apply U6; exact Z1; exact Z1; (focus (simp only [List.nil_append, List.append_nil]; first | exact k107 _)); simp only [pM, pN, rR, rP]) | (apply U5; exact rfl; exact Z3; simp only [pM, pN, rR, rP]) | (simp only [tP, bP, eP, true_and]) | (refine Y7 ?_; simp only [tR, bR, eR, true_and]) | (refine Y9 ?_; simp only [tX, bS, bO, Nat.reduceBEq, tN, bN]) | (refine Y4 ?_ ?_; exact Z2) | (refine Y5 ?_ ?_; exact Z2) | (apply Y6; exact Z1; refine ⟨fun hh => ?_, fun hh => ?_⟩))
        all_goals simp only [resV_def (X := dX cGU) Tryz.func46, Tryz.results46, resultsV, resultV, go_sem, *, Nat.reduceLT, Int.reduceEq, Int.reduceBEq, Int.reduceLE, Int.reduceLT, Nat.reduceAdd, Nat.reduceBEq, Nat.reduceEqDiff, reduceIte, Nat.reduceLeDiff, Nat.reduceMul, Nat.reduceSub, reduceCtorEq, frzRes, dFrz, frzCells, isRet_ret, tupleOf]
    · cases h
  · cases h
end Go.AM
