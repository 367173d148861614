/-
  A part of the proof: contracts of functions.
-/
import Derived.Test.YtkpbdjpekjdhcaaGreatDoorTBI
set_option linter.unusedSectionVars false
set_option linter.unusedVariables false
set_option linter.unusedSimpArgs false
set_option maxRecDepth 100000
namespace Go.AM
open Go Go.Proofs
variable [Keep]
attribute [local irreducible] W WO WO1 WD WQ WT thenQ blockQ endR isRet retK Cl ClR
open Go.TX (Rm Fa Ha Hs)
attribute [local irreducible] houseB pathB airS failsH fitsB shapeB nowF rowF runsB drawnP knG rowK mdG geA geR
set_option maxHeartbeats 32000000 in
theorem T16 (ra fa oa ha dv ev : AV) (m : Hs) (g l : List (List Int)) (x : Fk) (v : HsI m ra fa oa ha) (q : LsI dv g) (ql : LsI ev l) : ClR (dX cX16) 16 [.agg [.int .i64 m.hours, ra, fa, oa, ha], .agg [dv, .int .i64 x.what, .int .i64 x.num, .int .i64 x.hour], ev] emptyHp (isRet (.bool true)) := by
 have o1 := v.r.out
 have o2 := v.f.out
 have o3 := v.o.out
 have o4 := v.h.out
 have od := q.out
 have ol := ql.out
 obtain ⟨hcd, htd⟩ : dv.cells = [dv] ∧ isTuple dv = false := by obtain ⟨es, w1, _⟩ := q; exact ⟨w1.cells, w1.tup⟩
 obtain ⟨hce, hte⟩ : ev.cells = [ev] ∧ isTuple ev = false := by obtain ⟨es, w1, _⟩ := ql; exact ⟨w1.cells, w1.tup⟩
 simp only [AV.cells] at hcd hce
 simp only [isTuple] at htd hte
 have k22 : ∀ h, Cl (dX cX16) 22 [] h (.ret (.bool true) h none) := fun h => K22 rfl h
 have k21 := fun h => K21I (X := dX cX16) rfl v h
 have k51 := fun h => C51 (c := cX16) rfl dv g q h
 have k51b := fun h => C51 (c := cX16) rfl ev l ql h
 have n0 : ((0 : Int) != 0) = false := rfl
 have tt : (true && true) = true := rfl
 cases gs : shortB m with
 | false =>
  rw [gs] at k21
  clear v q ql gs
  refine ClR.walk (c := _) rfl Tryz.func16 rfl (by kernel_rfl) rfl isRet_fail ?_
  try simp only [entryEnv, Nat.reduceAdd, List.nil_append, List.cons_append, emptyHp]
  repeat' (first | refine goS ?_ | (apply U6; exact Z1; exact Z1; (focus (simp only [List.nil_append, List.append_nil]; first | exact k21 _ | exact k22 _)); simp only [pM, pN, rR, rP]) | refine go2 (fun hh => ?_) (fun hh => ?_) | fail)
  all_goals (simp only [resV_def (X := dX cX16) Tryz.func16, Tryz.results16]; first | exact J5 | refine J6 ?_)
  all_goals rfl
 | true =>
  rw [gs] at k21
  cases gd : sizedL g with
  | false =>
   rw [gd] at k51
   clear v q ql gs gd
   refine ClR.walk (c := _) rfl Tryz.func16 rfl (by kernel_rfl) rfl isRet_fail ?_
   try simp only [entryEnv, Nat.reduceAdd, List.nil_append, List.cons_append, emptyHp]
   repeat' (first | refine goS ?_ | (apply U6; exact Z1; exact Z1; (focus (simp only [List.nil_append, List.append_nil]; first | exact k21 _ | exact k22 _ | exact k51 _)); simp only [pM, pN, rR, rP]) | refine go2 (fun hh => ?_) (fun hh => ?_) | fail)
   all_goals (simp only [resV_def (X := dX cX16) Tryz.func16, Tryz.results16]; first | exact J5 | refine J6 ?_)
   all_goals rfl
  | true =>
   rw [gd] at k51
   cases gl : sizedL l with
   | false =>
    rw [gl] at k51b
    clear v q ql gs gl gd
    refine ClR.walk (c := _) rfl Tryz.func16 rfl (by kernel_rfl) rfl isRet_fail ?_
    try simp only [entryEnv, Nat.reduceAdd, List.nil_append, List.cons_append, emptyHp]
    repeat' (first | refine goS ?_ | (apply U6; exact Z1; exact Z1; (focus (simp only [List.nil_append, List.append_nil]; first | exact k21 _ | exact k22 _ | exact k51 _ | exact k51b _)); simp only [pM, pN, rR, rP]) | refine go2 (fun hh => ?_) (fun hh => ?_) | fail)
    all_goals (simp only [resV_def (X := dX cX16) Tryz.func16, Tryz.results16]; first | exact J5 | refine J6 ?_)
    all_goals rfl
   | true =>
    rw [gl] at k51b
    have hA := v.short gs
    have hg := q.sized gd
    have hl := ql.sized gl
    have k24 := fun h => K24p (X := dX cX16) rfl hA h
    cases hb : houseB m with
    | false =>
     rw [hb] at k24
     clear v q ql gs gl gd hA hg hl hb
     refine ClR.walk (c := _) rfl Tryz.func16 rfl (by kernel_rfl) rfl isRet_fail ?_
     try simp only [entryEnv, Nat.reduceAdd, List.nil_append, List.cons_append, emptyHp]
     repeat' (first | refine goS ?_ | (apply U6; exact Z1; exact Z1; (focus (simp only [List.nil_append, List.append_nil]; first | exact k21 _ | exact k22 _ | exact k51 _ | exact k51b _ | exact k24 _)); simp only [pM, pN, rR, rP]) | refine go2 (fun hh => ?_) (fun hh => ?_) | fail)
     all_goals (simp only [resV_def (X := dX cX16) Tryz.func16, Tryz.results16]; first | exact J5 | refine J6 ?_)
     all_goals rfl
    | true =>
     rw [hb] at k24
     have ho := house_ok hb
     have k66 := fun h => C66 (c := cX16) hc16 rfl m x ra fa oa ha dv g hA hg h
     cases hs : sizedB m g x with
     | false =>
      rw [hs] at k66
      clear v q ql gs gl gd hA hg hl hb ho hs
      refine ClR.walk (c := _) rfl Tryz.func16 rfl (by kernel_rfl) rfl isRet_fail ?_
      try simp only [entryEnv, Nat.reduceAdd, List.nil_append, List.cons_append, emptyHp]
      repeat' (first | refine goS ?_ | (apply U6; exact Z1; exact Z1; (focus (simp only [List.nil_append, List.append_nil]; first | exact k21 _ | exact k22 _ | exact k51 _ | exact k51b _ | exact k24 _ | exact k66 _)); simp only [pM, pN, rR, rP]) | refine go2 (fun hh => ?_) (fun hh => ?_) | fail)
      all_goals (simp only [resV_def (X := dX cX16) Tryz.func16, Tryz.results16]; first | exact J5 | refine J6 ?_)
      all_goals rfl
     | true =>
      rw [hs] at k66
      obtain ⟨s1, s2, s3⟩ := sized_is hs
      obtain ⟨nn, hnn, hnt, hn1, hn4, hol⟩ := ho_parts ho
      have k67 := fun h => C67 (c := cX16) hc16 rfl m x ra fa oa ha dv g hA hg nn hnn (by omega) s2 (fun r hr => by have := s1 r hr; omega) h
      cases hf : fitsB m g with
      | false =>
       rw [hf] at k67
       clear v q ql gs gl gd hA hg hl hb ho hs s1 s2 s3 hnn hnt hn1 hn4 hol hf
       refine ClR.walk (c := _) rfl Tryz.func16 rfl (by kernel_rfl) rfl isRet_fail ?_
       try simp only [entryEnv, Nat.reduceAdd, List.nil_append, List.cons_append, emptyHp]
       repeat' (first | refine goS ?_ | (apply U6; exact Z1; exact Z1; (focus (simp only [List.nil_append, List.append_nil]; first | exact k21 _ | exact k22 _ | exact k51 _ | exact k51b _ | exact k24 _ | exact k66 _ | exact k67 _)); simp only [pM, pN, rR, rP]) | refine go2 (fun hh => ?_) (fun hh => ?_) | fail)
       all_goals (simp only [resV_def (X := dX cX16) Tryz.func16, Tryz.results16]; first | exact J5 | refine J6 ?_)
       all_goals rfl
      | true =>
       rw [hf] at k67
       have hss := sized_shape ho g x
       rw [hs] at hss
       replace hss := hss.symm
       simp only [Bool.and_eq_true] at hss
       obtain ⟨hsh, hsm⟩ := hss
       obtain ⟨t, htt0⟩ := Option.isSome_iff_exists.1 hsm
       obtain ⟨htm, htx⟩ := find_some htt0
       have hnm : Fl.no ∈ failsH m := by unfold failsH; exact fail_mem.2 (by unfold flOk; trivial)
       have e2 := run_truth hb hf hsh htt0
       have e3 := run_truth hb hf hsh (find_tell hnm)
       have e1 : knV m = .tuple [slN (spansE (knG m m.hours.toNat m.rooms.length)), .int .i64 0] := by unfold knV; rw [hb]; rfl
       have k23 := fun h => K23 (X := dX cX16) rfl hA h
       have k68 := fun h => K68 (X := dX cX16) rfl hA hg x h
       have k68n := fun h => K68 (X := dX cX16) rfl hA hg (Fl.tell .no) h
       have k69 := fun h => C69 (c := cX16) hc16 h
       rw [e1] at k23
       rw [e2] at k68
       rw [e3] at k68n
       have hr3 := ho.rooms
       have q1 := runG_ok ho t hf s2
       have q2 := runG_ok ho .no hf s2
       have li1 := rows_lis (g := runG m t g) (by rw [q1.len]; unfold maxL; omega) fun l hl => by rw [q1.row l hl]; unfold maxL; omega
       have li2 := rows_lis (g := runG m .no g) (by rw [q2.len]; unfold maxL; omega) fun l hl => by rw [q2.row l hl]; unfold maxL; omega
       have k70 := fun h => C70 (c := cX16) rfl m ra fa oa ha _ _ hA ho li1 q1 h
       have k70n := fun h => C70 (c := cX16) rfl m ra fa oa ha _ _ hA ho li2 q2 h
       have ls1 := lis_len li1
       have ls2 := lis_len li2
       rw [q1.len] at ls1
       rw [q2.len] at ls2
       have os1 := lis_out li1
       have os2 := lis_out li2
       have lsk := (slN_is (spansE (knG m m.hours.toNat m.rooms.length))).len
       have osk := (slN_is (spansE (knG m m.hours.toNat m.rooms.length))).out
       have hsl : (spansE (knG m m.hours.toNat m.rooms.length)).length = m.rooms.length := by unfold spansE; rw [List.length_map, knG_len]
       rw [hsl] at lsk
       have hX := fun (r : Nat) (hr : r < m.rooms.length) => lis_row li1 (r := r) (n := nn) (by rw [q1.len]; exact hr) (fun l hl => by rw [q1.row l hl]; exact hnt)
       have hY := fun (r : Nat) (hr : r < m.rooms.length) => lis_row li2 (r := r) (n := nn) (by rw [q2.len]; exact hr) (fun l hl => by rw [q2.row l hl]; exact hnt)
       have hK := fun (r : Nat) (hr : r < m.rooms.length) => kn_row m m.hours.toNat m.rooms.length hr
       have hmd := fun r k => md_ok ho hf s2 r k
       have hvx : ∀ r k, r < m.rooms.length → k < nn → mdG (runG m t g) r k = nowF m t r (mdG g r) (k + 1) := fun r k h1 h2 => by
        have := run_at (m := m) (f := t) (g := g) h1 (by rw [hnt]; exact h2)
        unfold mdG at this ⊢
        exact this
       have hvy : ∀ r k, r < m.rooms.length → k < nn → mdG (runG m .no g) r k = nowF m .no r (mdG g r) (k + 1) := fun r k h1 h2 => by
        have := run_at (m := m) (f := .no) (g := g) h1 (by rw [hnt]; exact h2)
        unfold mdG at this ⊢
        exact this
       have hin : ∀ r k, r < m.rooms.length → k < nn → decide (mdG (runG m t g) r k < (airS m (rstP nn k r)).1) = false ∧ decide (mdG (runG m t g) r k > (airS m (rstP nn k r)).2) = false := fun r k h1 h2 => by
        have := truth_known ho htm hf s2 s1 h1 (by rw [hnt]; exact h2) (by rw [hnt]; exact rest_path ho hnn h1)
        rw [hnt, ← hvx r k h1 h2] at this
        simp only [decide_eq_false_iff_not]
        omega
       have hfan : ∀ r k, r < m.rooms.length → k < nn → (x.what == 2) = true → decide (mdG (runG m t g) r k < mdG (runG m .no g) r k) = false := fun r k h1 h2 hw => by
        rw [hvx r k h1 h2, hvy r k h1 h2]
        rw [← htx] at hw
        simp only [decide_eq_false_iff_not, Int.not_lt]
        cases t with
        | no => cases hw
        | fan a b => exact now_fan ho a b r (hmd r) (k + 1) (by omega)
        | mach a b => cases hw
       have hmach : ∀ r k, r < m.rooms.length → k < nn → (x.what == 3) = true → decide (mdG (runG m t g) r k > mdG (runG m .no g) r k) = false := fun r k h1 h2 hw => by
        rw [hvx r k h1 h2, hvy r k h1 h2]
        rw [← htx] at hw
        simp only [decide_eq_false_iff_not, gt_iff_lt, Int.not_lt]
        cases t with
        | no => cases hw
        | fan a b => cases hw
        | mach a b => exact now_mach ho a b r (hmd r) (k + 1) (by omega)
       have hnen : ((nn : Int) != (nn : Int)) = false := by simp
       have hner : ((m.rooms.length : Int) != (m.rooms.length : Int)) = false := by simp
       have k66b := fun h => C66 (c := cX16) hc16 rfl m x ra fa oa ha ev l hA hl h
       rw [hnt] at hK k23 lsk osk
       rw [hnn] at k21 k24 k66 k67 k23 k68 k68n k70 k70n k66b ⊢
       have HA := Lib.hid hA
       have HX := Lib.hid hX
       have HY := Lib.hid hY
       have HK := Lib.hid hK
       have HIN := Lib.hid hin
       have HFAN := Lib.hid hfan
       have HMACH := Lib.hid hmach
       have HN := Lib.hid hn4
       have HR := Lib.hid hr3
       have HB' := Lib.hid hb
       have HO := Lib.hid ho
       have HHN := Lib.hid hnn
       have HHT := Lib.hid hnt
       have HF' := Lib.hid hf
       have HS2 := Lib.hid s2
       have HS1 := Lib.hid s1
       have HTT := Lib.hid htt0
       have HMD := Lib.hid hmd
       have HVX := Lib.hid hvx
       have HLG := Lib.hid hg
       have HLL := Lib.hid hl
       clear v q ql gs gl gd hA hg hl hb ho hs s1 s2 s3 hnn hnt hn1 hn4 hol hf hsh hsm htt0 htm htx hnm e1 e2 e3 hr3 q1 q2 li1 li2 hsl hX hY hK hmd hvx hvy hin hfan hmach
       generalize slN (rowsE (runG m t g)) = xv at *
       generalize slN (rowsE (runG m .no g)) = yv at *
       generalize slN (spansE (knG m nn m.rooms.length)) = kv at *
       simp only [fkC, Fl.tell] at k69 k68n
       refine ClR.walk (c := _) rfl Tryz.func16 rfl (by kernel_rfl) rfl isRet_fail ?_
       try simp only [entryEnv, Nat.reduceAdd, List.nil_append, List.cons_append, emptyHp]
       repeat' (first | (apply W.drawQ (id := 5) (l1 := [0, 1, 2, 3, 4, 5, 6, 7, 8, 9, 10]) (l2 := []); kernel_rfl; kernel_rfl; kernel_rfl; exact Z4) | refine go1 ?_ | (apply U6; exact Z1; exact Z1; (focus (simp only [List.nil_append, List.append_nil]; first | exact k21 _ | exact k22 _ | exact k51 _ | exact k51b _ | exact k24 _ | exact k66 _ | exact k67 _ | exact k23 _ | exact k68 _ | exact k68n _ | exact k69 _ | exact k70 _ | exact k70n _)); simp only [pM, pN, rR, rP]) | refine go2 (fun hh => ?_) (fun hh => ?_) | fail)
       refine W.loopH (m.rooms.length) [2, 3, 4, 7, 9, 11] [3, 4] (fun k e lm => e.get 13 = some (.int .i64 ↑k)) ?_ ?_
       ·first | exact Z2 | rfl | assumption | (simp [go_sem, *]; done)
       intro k e lm hk0 hce hcl hinv
       simp only [keepE, and_true] at hce
       obtain ⟨c2, c3, c4, c7, c9, c11⟩ := hce
       simp only [go_sem, *, Nat.reduceLT, Int.reduceEq, Int.reduceBEq, Int.reduceLE, Int.reduceLT, Nat.reduceAdd, Nat.reduceBEq, Nat.reduceEqDiff, reduceIte, Nat.reduceLeDiff, Nat.reduceMul, Nat.reduceSub, reduceCtorEq] at c2 c3 c4 c7 c9 c11
       simp only [keepL, and_true] at hcl
       obtain ⟨d3, d4⟩ := hcl
       simp only [go_sem, *, Nat.reduceLT, Int.reduceEq, Int.reduceBEq, Int.reduceLE, Int.reduceLT, Nat.reduceAdd, Nat.reduceBEq, Nat.reduceEqDiff, reduceIte, Nat.reduceLeDiff, Nat.reduceMul, Nat.reduceSub, reduceCtorEq] at d3 d4
       have h13 := hinv
       clear hinv
       by_cases hlt : k < m.rooms.length
       ·have hd0 : decide ((k : Int) < ((m.rooms.length : Nat) : Int)) = true := by first | (simpa using hlt; done) | (simp only [decide_eq_true_eq]; omega)
        have hv_0 := wrap_succ hlt (by have := HR.out; unfold maxL; omega)
        obtain ⟨b1, p1, p2, p3, p4, p5⟩ := HX.out k hlt
        obtain ⟨b2, p6, p7, p8, p9, p10⟩ := HY.out k hlt
        obtain ⟨b3, p11, p12, p13, p14, p15, p16⟩ := HK.out k hlt
        have P5 := Lib.hid p5
        have P10 := Lib.hid p10
        have P16 := Lib.hid p16
        have HLT0 := Lib.hid hlt
        simp only [AV.cells] at p2 p7 p12
        simp only [isTuple] at p3 p8 p13
        clear p5 p10 p16 hlt
        clear k21 k22 k51 k51b k24 k66 k67 k68 k68n k69 k23 k70 k70n k66b
        repeat' (first | (apply W.drawQ (id := 11) (l1 := [0, 1, 2, 3, 4, 5, 6, 7]) (l2 := []); kernel_rfl; kernel_rfl; kernel_rfl; exact Z4) | refine go1 ?_ | refine go2 (fun hh => ?_) (fun hh => ?_) | fail)
        refine W.loopH (nn) [2, 3, 4, 7, 9, 11, 13] [3, 4] (fun j e1 lm1 => e1.get 14 = some (.int .i64 ↑j)) ?_ ?_
        ·first | exact Z2 | rfl | assumption | (simp [go_sem, *]; done)
        intro j e1 lm1 hk1 hce hcl hinv
        simp only [keepE, and_true] at hce
        obtain ⟨c2, c3, c4, c7, c9, c11, c13⟩ := hce
        simp only [go_sem, *, Nat.reduceLT, Int.reduceEq, Int.reduceBEq, Int.reduceLE, Int.reduceLT, Nat.reduceAdd, Nat.reduceBEq, Nat.reduceEqDiff, reduceIte, Nat.reduceLeDiff, Nat.reduceMul, Nat.reduceSub, reduceCtorEq] at c2 c3 c4 c7 c9 c11 c13
        simp only [keepL, and_true] at hcl
        obtain ⟨d3, d4⟩ := hcl
        simp only [go_sem, *, Nat.reduceLT, Int.reduceEq, Int.reduceBEq, Int.reduceLE, Int.reduceLT, Nat.reduceAdd, Nat.reduceBEq, Nat.reduceEqDiff, reduceIte, Nat.reduceLeDiff, Nat.reduceMul, Nat.reduceSub, reduceCtorEq] at d3 d4
        have h14 := hinv
        clear hinv
        by_cases hjt : j < nn
        ·have hd1 : decide ((j : Int) < ((nn : Nat) : Int)) = true := by first | (simpa using hjt; done) | (simp only [decide_eq_true_eq]; omega)
         have hv_1 := wrap_succ hjt (by have := HN.out; unfold maxL; omega)
         have u1 := P5.out j hjt
         have u2 := P10.out j hjt
         have u3 := P16.out j hjt
         obtain ⟨f1, f2⟩ := HIN.out k j HLT0.out hjt
         have f3 := HFAN.out k j HLT0.out hjt
         have f4 := HMACH.out k j HLT0.out hjt
         refine R16_2 (c := cX16) (cs := []) (K := _) (Q := _) (hp := _) (hours := 0) (xx := mdG (runG m t g) k j) (yy := mdG (runG m .no g) k j) (lo := (airS m (rstP nn j k)).1) (hi := (airS m (rstP nn j k)).2) (c3 := c3) (c4 := c4) (c7 := c7) (c9 := c9) (c11 := c11) (c13 := c13) (h14 := h14) (d3 := d3) (d4 := d4) (ox := os1) (oy := os2) (ok := osk) (ix := p4) (iy := p9) (ik := p15) (p1 := p1) (p2 := p6) (p3 := p11) (q1 := p2) (q2 := p7) (q3 := p12) (r1 := p3) (r2 := p8) (r3 := p13) (jx := u1) (jy := u2) (jk := u3) (hd := hd1) (hw := hv_1) (d1 := f1) (d2 := f2) (d5 := f3) (d6 := f4) (hN := fun e' g14 gk => ?_)
         have HLT1 := Lib.hid hjt
         clear hjt u1 u2 u3 f1 f2 f3 f4
         simp only [keepE, and_true] at gk
         obtain ⟨g2, g3, g4, g7, g9, g11, g13⟩ := gk
         rw [c2] at g2
         rw [c3] at g3
         rw [c4] at g4
         rw [c7] at g7
         rw [c9] at g9
         rw [c11] at g11
         rw [c13] at g13
         clear c2 c3 c4 c7 c9 c11 c13
         all_goals refine contH_mk (by first | assumption | exact HLT1.out | exact HLT0.out) (by simp only [keepE, and_true, and_self, go_sem, *, Nat.reduceLT, Int.reduceEq, Int.reduceBEq, Int.reduceLE, Int.reduceLT, Nat.reduceAdd, Nat.reduceBEq, Nat.reduceEqDiff, reduceIte, Nat.reduceLeDiff, Nat.reduceMul, Nat.reduceSub, reduceCtorEq]) (by simp only [keepL, and_true, and_self, go_sem, *, Nat.reduceLT, Int.reduceEq, Int.reduceBEq, Int.reduceLE, Int.reduceLT, Nat.reduceAdd, Nat.reduceBEq, Nat.reduceEqDiff, reduceIte, Nat.reduceLeDiff, Nat.reduceMul, Nat.reduceSub, reduceCtorEq]) ?_
         all_goals first | exact Z2 | skip
        ·have hd1 : decide ((j : Int) < ((nn : Nat) : Int)) = false := by first | (simpa using hjt; done) | (simp only [decide_eq_false_iff_not]; omega)
         obtain rfl : j = nn := by omega
         repeat' (first | refine goS ?_ | refine go2 (fun hh => ?_) (fun hh => ?_) | fail)
         all_goals refine contH_mk (by first | assumption | exact HLT0.out | exact HLT0.out) (by simp only [keepE, and_true, and_self, go_sem, *, Nat.reduceLT, Int.reduceEq, Int.reduceBEq, Int.reduceLE, Int.reduceLT, Nat.reduceAdd, Nat.reduceBEq, Nat.reduceEqDiff, reduceIte, Nat.reduceLeDiff, Nat.reduceMul, Nat.reduceSub, reduceCtorEq]) (by simp only [keepL, and_true, and_self, go_sem, *, Nat.reduceLT, Int.reduceEq, Int.reduceBEq, Int.reduceLE, Int.reduceLT, Nat.reduceAdd, Nat.reduceBEq, Nat.reduceEqDiff, reduceIte, Nat.reduceLeDiff, Nat.reduceMul, Nat.reduceSub, reduceCtorEq]) ?_
         all_goals first | exact Z2 | skip
       ·have hd0 : decide ((k : Int) < ((m.rooms.length : Nat) : Int)) = false := by first | (simpa using hlt; done) | (simp only [decide_eq_false_iff_not]; omega)
        obtain rfl : k = m.rooms.length := by omega
        repeat' (first | (exact T16a _ _ _ ra fa oa ha dv ev xv m nn t x.what x.num x.hour g l HA.out HHN.out HB'.out HLG.out HLL.out HS1.out HS2.out HF'.out HTT.out os1 HX.out Z2 Z2 Z2 Z2 Z2 Z2) | refine go1 ?_ | refine go2 (fun hh => ?_) (fun hh => ?_) | fail)
end Go.AM
