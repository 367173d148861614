/-
  A part of the proof: contracts of functions.
-/
import Derived.Test.YtkpbdjpekjdhcaaGreatDoorRBG
import Derived.Test.YtkpbdjpekjdhcaaGreatDoorRAU
set_option linter.unusedSectionVars false
set_option linter.unusedVariables false
set_option linter.unusedSimpArgs false
set_option maxRecDepth 100000
namespace Go.AM
open Go Go.Proofs
variable [Keep]
attribute [local irreducible] W WO WO1 WD WQ WT thenQ blockQ endR isRet retK Cl ClR
open Go.TX (Rm Fa Ha Hs)
attribute [local irreducible] houseB pathB airS failsH fitsB
noncomputable def c17 : Itr
 | 21 => some (pureFn sp21S)
 | 22 => some (pureFn sp22)
 | 24 => some (flatFnD sp82)
 | 60 => some (pureFn sp60)
 | 68 => some (pureFn sp68)
 | 72 => some (pureFn sp72)
 | 73 => some (newQ sp73)
 | 84 => some (pureFn sp84)
 | 85 => some (pureFn sp85)
 | _ => none
theorem c17_sound (hT : TabK Tryz.prog) : Sound (dX c17) := dX_sound (fun f g h => by
 unfold c17 at h
 split at h
 ·cases h; exact F21S
 ·cases h; exact F22 hT
 ·cases h; exact F24D
 ·cases h; exact F60
 ·cases h; exact F68
 ·cases h; exact F72
 ·cases h; exact F73
 ·cases h; exact F84
 ·cases h; exact F85
 ·cases h)
theorem hc17 : CxR c17 := ⟨rfl, rfl, rfl, rfl, rfl, rfl, rfl, rfl⟩
theorem grid_lis {g : List (List Int)} {R n : Nat} {B : Int} (q : GOk g R n B) (hR : R ≤ 100) (hn : n ≤ 100) : lisV (slN (rowsE g)) = some g :=
 rows_lis (by rw [q.len]; unfold maxL; omega) fun l hl => by rw [q.row l hl]; unfold maxL; omega
theorem any_nxt {α : Type} {q : α → Bool} {l : List α} {k : Nat} {x : α} (h : l[k]? = some x) : (l.take (k + 1)).any q = ((l.take k).any q || q x) := by rw [take_next h, List.any_append]; simp
set_option maxHeartbeats 16000000 in
theorem T17 (ra fa oa ha pa dv : AV) (m : Hs) (p : List Int) (g : List (List Int)) (x : Fk) (v : HsI m ra fa oa ha) (qp : isSl pa (p.map intC.enc)) (q : LsI dv g) : ClR (dX c17) 17 [.agg [.int .i64 m.hours, ra, fa, oa, ha], pa, .agg [dv, .int .i64 x.what, .int .i64 x.num, .int .i64 x.hour]] emptyHp (isRet (.bool true)) := by
 have o1 := v.r.out
 have o2 := v.f.out
 have o3 := v.o.out
 have o4 := v.h.out
 have op := qp.out
 have lp := qp.len
 have od := q.out
 rw [List.length_map] at lp
 have k22 : ∀ h, Cl (dX c17) 22 [] h (.ret (.bool true) h none) := fun h => K22 rfl h
 have k21 := fun h => K21I (X := dX c17) rfl v h
 have k51 := fun h => C51 (c := c17) rfl dv g q h
 have n0 : ((0 : Int) != 0) = false := rfl
 have tt : (true && true) = true := rfl
 cases gs : shortB m with
 | false =>
  rw [gs] at k21
  clear v q qp gs
  refine ClR.walk (c := _) rfl Tryz.func17 rfl (by kernel_rfl) rfl isRet_fail ?_
  try simp only [entryEnv, Nat.reduceAdd, List.nil_append, List.cons_append, emptyHp]
  repeat' (first | refine goS ?_ | (apply U6; exact Z1; exact Z1; (focus (simp only [List.nil_append, List.append_nil]; first | exact k21 _ | exact k22 _)); simp only [pM, pN, rR, rP]) | refine go2 (fun hh => ?_) (fun hh => ?_) | fail)
  all_goals (simp only [resV_def (X := dX c17) Tryz.func17, Tryz.results17]; first | exact J5 | refine J6 ?_)
  all_goals rfl
 | true =>
  rw [gs] at k21
  cases gz : decide ((p.length : Int) > 7) with
  | true =>
   clear v q qp gs
   refine ClR.walk (c := _) rfl Tryz.func17 rfl (by kernel_rfl) rfl isRet_fail ?_
   try simp only [entryEnv, Nat.reduceAdd, List.nil_append, List.cons_append, emptyHp]
   repeat' (first | refine goS ?_ | (apply U6; exact Z1; exact Z1; (focus (simp only [List.nil_append, List.append_nil]; first | exact k21 _ | exact k22 _)); simp only [pM, pN, rR, rP]) | refine go2 (fun hh => ?_) (fun hh => ?_) | fail)
   all_goals (simp only [resV_def (X := dX c17) Tryz.func17, Tryz.results17]; first | exact J5 | refine J6 ?_)
   all_goals rfl
  | false =>
   cases gl : sizedL g with
   | false =>
    rw [gl] at k51
    clear v q qp gs gl
    refine ClR.walk (c := _) rfl Tryz.func17 rfl (by kernel_rfl) rfl isRet_fail ?_
    try simp only [entryEnv, Nat.reduceAdd, List.nil_append, List.cons_append, emptyHp]
    repeat' (first | refine goS ?_ | (apply U6; exact Z1; exact Z1; (focus (simp only [List.nil_append, List.append_nil]; first | exact k21 _ | exact k22 _ | exact k51 _)); simp only [pM, pN, rR, rP]) | refine go2 (fun hh => ?_) (fun hh => ?_) | fail)
    all_goals (simp only [resV_def (X := dX c17) Tryz.func17, Tryz.results17]; first | exact J5 | refine J6 ?_)
    all_goals rfl
   | true =>
    rw [gl] at k51
    have hA := v.short gs
    have hg := q.sized gl
    have hp : slV intC pa = some p := slV_mk qp (by simp only [decide_eq_false_iff_not] at gz; unfold maxL; omega)
    have k24 := fun h => K24p (X := dX c17) rfl hA h
    cases hb : houseB m with
    | false =>
     rw [hb] at k24
     clear v q qp gs gl hA hg hp hb
     refine ClR.walk (c := _) rfl Tryz.func17 rfl (by kernel_rfl) rfl isRet_fail ?_
     try simp only [entryEnv, Nat.reduceAdd, List.nil_append, List.cons_append, emptyHp]
     repeat' (first | refine goS ?_ | (apply U6; exact Z1; exact Z1; (focus (simp only [List.nil_append, List.append_nil]; first | exact k21 _ | exact k22 _ | exact k51 _ | exact k24 _)); simp only [pM, pN, rR, rP]) | refine go2 (fun hh => ?_) (fun hh => ?_) | fail)
     all_goals (simp only [resV_def (X := dX c17) Tryz.func17, Tryz.results17]; first | exact J5 | refine J6 ?_)
     all_goals rfl
    | true =>
     rw [hb] at k24
     have ho := house_ok hb
     have k62 := fun h => C62 (c := c17) hc17 rfl m ra fa oa ha pa p hA hp h
     cases hq : pathB m p with
     | false =>
      rw [hq] at k62
      clear v q qp gs gl hA hg hp hb hq ho
      refine ClR.walk (c := _) rfl Tryz.func17 rfl (by kernel_rfl) rfl isRet_fail ?_
      try simp only [entryEnv, Nat.reduceAdd, List.nil_append, List.cons_append, emptyHp]
      repeat' (first | refine goS ?_ | (apply U6; exact Z1; exact Z1; (focus (simp only [List.nil_append, List.append_nil]; first | exact k21 _ | exact k22 _ | exact k51 _ | exact k24 _ | exact k62 _)); simp only [pM, pN, rR, rP]) | refine go2 (fun hh => ?_) (fun hh => ?_) | fail)
      all_goals (simp only [resV_def (X := dX c17) Tryz.func17, Tryz.results17]; first | exact J5 | refine J6 ?_)
      all_goals rfl
     | true =>
      rw [hq] at k62
      have k66 := fun h => C66 (c := c17) hc17 rfl m x ra fa oa ha dv g hA hg h
      cases hs : sizedB m g x with
      | false =>
       rw [hs] at k66
       clear v q qp gs gl hA hg hp hb hq ho hs
       refine ClR.walk (c := _) rfl Tryz.func17 rfl (by kernel_rfl) rfl isRet_fail ?_
       try simp only [entryEnv, Nat.reduceAdd, List.nil_append, List.cons_append, emptyHp]
       repeat' (first | refine goS ?_ | (apply U6; exact Z1; exact Z1; (focus (simp only [List.nil_append, List.append_nil]; first | exact k21 _ | exact k22 _ | exact k51 _ | exact k24 _ | exact k62 _ | exact k66 _)); simp only [pM, pN, rR, rP]) | refine go2 (fun hh => ?_) (fun hh => ?_) | fail)
       all_goals (simp only [resV_def (X := dX c17) Tryz.func17, Tryz.results17]; first | exact J5 | refine J6 ?_)
       all_goals rfl
      | true =>
       rw [hs] at k66
       obtain ⟨s1, s2, s3⟩ := sized_is hs
       obtain ⟨nn, hnn, hnt, hn1, hn4, hol⟩ := ho_parts ho
       have k67 := fun h => C67 (c := c17) hc17 rfl m x ra fa oa ha dv g hA hg nn hnn (by omega) s2 (fun r hr => by have := s1 r hr; omega) h
       cases hf : fitsB m g with
       | false =>
        rw [hf] at k67
        clear v q qp gs gl hA hg hp hb hq ho hs s1 s2 s3 hnn hnt hn1 hn4 hol hf
        refine ClR.walk (c := _) rfl Tryz.func17 rfl (by kernel_rfl) rfl isRet_fail ?_
        try simp only [entryEnv, Nat.reduceAdd, List.nil_append, List.cons_append, emptyHp]
        repeat' (first | refine goS ?_ | (apply U6; exact Z1; exact Z1; (focus (simp only [List.nil_append, List.append_nil]; first | exact k21 _ | exact k22 _ | exact k51 _ | exact k24 _ | exact k62 _ | exact k66 _ | exact k67 _)); simp only [pM, pN, rR, rP]) | refine go2 (fun hh => ?_) (fun hh => ?_) | fail)
        all_goals (simp only [resV_def (X := dX c17) Tryz.func17, Tryz.results17]; first | exact J5 | refine J6 ?_)
        all_goals rfl
       | true =>
        rw [hf] at k67
        have hss := sized_shape ho g x
        rw [hs] at hss
        have hsm : (findF x (failsH m)).isSome = true := by
         have := hss.symm
         simp only [Bool.and_eq_true] at this
         exact this.2
        obtain ⟨f, hff⟩ := Option.isSome_iff_exists.1 hsm
        have e1 : breV m p = .tuple [.agg [.int .i64 (airS m p).1, .int .i64 (airS m p).2], .int .i64 0] := by unfold breV; rw [hb, hq]; rfl
        have e2 : runV m g x = .tuple [slN (rowsE (runG m f g)), .int .i64 0] := by unfold runV isTruth runG; rw [hf, hb, Bool.true_and, ← hss, hff]; rfl
        have k60 := fun h => K60 (X := dX c17) rfl hA hp h
        have k68 := fun h => K68 (X := dX c17) rfl hA hg x h
        rw [e1] at k60
        rw [e2] at k68
        have hgo := runG_ok ho f hf s2
        have hr3 := ho.rooms
        have hli := grid_lis hgo (by omega) (by omega)
        have or := lis_out hli
        have k70 := fun h => C70 (c := c17) rfl m ra fa oa ha _ _ hA ho hli hgo h
        have k71 := fun h => C71 (c := c17) rfl pa _ p _ h (pth_of hp) hli _ (brV_is ho hq hgo).1
        obtain ⟨t1, t2⟩ := truth_in ho hq (find_some hff).1 hf s2 s1
        have d1 : decide (brV (runG m f g) p < (airS m p).1) = false := by simp only [decide_eq_false_iff_not]; omega
        have d2 : decide (brV (runG m f g) p > (airS m p).2) = false := by simp only [decide_eq_false_iff_not]; omega
        have k72 := fun h => K72 (X := dX c17) rfl hA hb h
        have hl29 := fails_29 ho
        have hsl := fks_sl (failsH m) (by unfold maxL; omega)
        have hlen := sl_len hsl
        have hout := sl_out hsl
        rw [List.length_map] at hlen
        have h73 := fun f b h => K73 (X := dX c17) rfl hA hb (Fl.tell f) b h
        have h68 : ∀ (f : Fl) (b : Bool), f ∈ failsH m → ∀ h, Cl (dX c17) 68 [.agg [.int .i64 m.hours, ra, fa, oa, ha], .agg [slN (rowsE (endL m b m.hours.toNat m.rooms.length)), .int .i64 f.tell.what, .int .i64 f.tell.num, .int .i64 f.tell.hour]] h (.ret (.tuple [slN (rowsE (if b = true then highG m f else lowG m f)), .int .i64 0]) h none) := fun f b hf h => by
         have := K68 (X := dX c17) rfl hA (end_lis ho b) f.tell h
         rw [end_truth hb b hf] at this
         exact this
        have h70l := fun f h => C70 (c := c17) rfl m ra fa oa ha _ _ hA ho (low_lis ho f) (low_ok ho f) h
        have h70h := fun f h => C70 (c := c17) rfl m ra fa oa ha _ _ hA ho (high_lis ho f) (high_ok ho f) h
        have h71l := fun f h => C71 (c := c17) rfl pa _ p _ h (pth_of hp) (low_lis ho f) _ (brV_is ho hq (low_ok ho f)).1
        have h71h := fun f h => C71 (c := c17) rfl pa _ p _ h (pth_of hp) (high_lis ho f) _ (brV_is ho hq (high_ok ho f)).1
        have oe1 := lis_out (end_lis ho true)
        have oe2 := lis_out (end_lis ho false)
        obtain ⟨z1, z2⟩ := air_at m p
        have HSL := Lib.hid hsl
        have H73 := Lib.hid h73
        have H68 := Lib.hid h68
        have H70l := Lib.hid h70l
        have H70h := Lib.hid h70h
        have H71l := Lib.hid h71l
        have H71h := Lib.hid h71h
        have HL := Lib.hid hl29
        have HZ1 := Lib.hid z1
        have HZ2 := Lib.hid z2
        clear v q qp gs gl hA hg hp hb hq ho hs s1 s2 s3 hnn hnt hn1 hn4 hol hf hss hsm hff e1 e2 hgo hr3 hli t1 t2 hl29 hsl h73 h68 h70l h70h h71l h71h z1 z2
        generalize slN (fksE (failsH m)) = fs at *
        generalize slN (rowsE (runG m f g)) = rv at *
        generalize brV (runG m f g) p = bv at *
        generalize hv1 : slN (rowsE (endL m true m.hours.toNat m.rooms.length)) = v1 at *
        generalize hv2 : slN (rowsE (endL m false m.hours.toNat m.rooms.length)) = v2 at *
        generalize hlo : (airS m p).1 = lo at *
        generalize hhi : (airS m p).2 = hi at *
        have HV1 := Lib.hid hv1
        have HV2 := Lib.hid hv2
        clear hv1 hv2 hlo hhi
        refine ClR.walk (c := _) rfl Tryz.func17 rfl (by kernel_rfl) rfl isRet_fail ?_
        try simp only [entryEnv, Nat.reduceAdd, List.nil_append, List.cons_append, emptyHp]
        repeat' (first | refine goS ?_ | (apply U6; exact Z1; exact Z1; (focus (simp only [List.nil_append, List.append_nil]; first | exact k21 _ | exact k22 _ | exact k51 _ | exact k24 _ | exact k62 _ | exact k66 _ | exact k67 _ | exact k60 _ | exact k68 _ | exact k70 _ | exact k71 _ | exact k72 _)); simp only [pM, pN, rR, rP]) | refine go2 (fun hh => ?_) (fun hh => ?_) | fail)
        refine W.loopH ((failsH m).length) [1, 3, 7, 12] [3, 7] (fun k e lm => e.get 15 = some (.int .i64 ↑k) ∧ e.get 13 = some (.bool ((failsH m |>.take k).any fun f => brV (lowG m f) p == lo)) ∧ e.get 14 = some (.bool ((failsH m |>.take k).any fun f => brV (highG m f) p == hi))) ?_ ?_
        ·skip
         refine ⟨?_, ?_, ?_⟩
         all_goals first | exact Z2 | (simp [go_sem, *]; done) | skip
        intro k e lm hk0 hce hcl hinv
        simp only [keepE, and_true] at hce
        obtain ⟨c1, c3, c7, c12⟩ := hce
        simp only [go_sem, *, Nat.reduceLT, Int.reduceEq, Int.reduceBEq, Int.reduceLE, Int.reduceLT, Nat.reduceAdd, Nat.reduceBEq, Nat.reduceEqDiff, reduceIte, Nat.reduceLeDiff, Nat.reduceMul, Nat.reduceSub, reduceCtorEq] at c1 c3 c7 c12
        simp only [keepL, and_true] at hcl
        obtain ⟨d3, d7⟩ := hcl
        simp only [go_sem, *, Nat.reduceLT, Int.reduceEq, Int.reduceBEq, Int.reduceLE, Int.reduceLT, Nat.reduceAdd, Nat.reduceBEq, Nat.reduceEqDiff, reduceIte, Nat.reduceLeDiff, Nat.reduceMul, Nat.reduceSub, reduceCtorEq] at d3 d7
        obtain ⟨h15, h13, h14⟩ := hinv
        by_cases hlt : k < (failsH m).length
        ·have hd0 : decide ((k : Int) < (((failsH m).length : Nat) : Int)) = true := by first | (simpa using hlt; done) | (simp only [decide_eq_true_eq]; omega)
         have hv_0 := wrap_succ hlt (by have := HL.out; unfold maxL; omega)
         obtain ⟨f, hf⟩ := get_some hlt
         have hmem := List.mem_of_getElem? hf
         have hix := fun H => fks_idx HSL.out (k := k) (p := f.tell) (by rw [List.getElem?_map, hf]; rfl) H
         have k73 := fun h => H73.out f false h
         have k73t := fun h => H73.out f true h
         have k68l := fun h => H68.out f false hmem h
         have k68h := fun h => H68.out f true hmem h
         simp only [Bool.false_eq_true, if_false, if_true, fkC] at k68l k68h k73 k73t
         rw [HV2.out] at k73 k68l
         rw [HV1.out] at k73t k68h
         have k70l := fun h => H70l.out f h
         have k70h := fun h => H70h.out f h
         have k71l := fun h => H71l.out f h
         have k71h := fun h => H71h.out f h
         have a1 := any_nxt (q := fun f => brV (lowG m f) p == lo) hf
         have a2 := any_nxt (q := fun f => brV (highG m f) p == hi) hf
         have w1 := (slN_is (rowsE (lowG m f))).out
         have w2 := (slN_is (rowsE (highG m f))).out
         try simp only at a1 a2
         have HA1 := Lib.hid a1
         have HA2 := Lib.hid a2
         have HLT0 := Lib.hid hlt
         clear hf hmem hlt a1 a2
         generalize slN (rowsE (lowG m f)) = gl at *
         generalize slN (rowsE (highG m f)) = gh at *
         generalize brV (lowG m f) p = bl at *
         generalize brV (highG m f) p = bh at *
         cases u1 : ((failsH m).take k).any (fun f => brV (lowG m f) p == lo) <;> cases u2 : ((failsH m).take k).any (fun f => brV (highG m f) p == hi) <;> cases u3 : (bl == lo) <;> cases u4 : (bh == hi)
         all_goals
          have y1 := HA1.out
          have y2 := HA2.out
          rw [u1, u3] at y1
          rw [u2, u4] at y2
          simp only [Bool.or_self, Bool.or_true, Bool.or_false, Bool.true_or] at y1 y2
          have HY1 := Lib.hid y1
          have HY2 := Lib.hid y2
          rw [u1] at h13
          rw [u2] at h14
          clear u1 u2 y1 y2
          repeat' (first | (apply W.drawQ (id := 15) (l1 := [0, 1, 2, 3, 4, 5, 6, 7, 8, 9, 10, 11, 12]) (l2 := []); kernel_rfl; kernel_rfl; kernel_rfl; exact Z4) | (apply W.drawQ (id := 16) (l1 := [0, 1, 2, 3, 4, 5, 6, 7, 8, 9, 10, 11, 12]) (l2 := []); kernel_rfl; kernel_rfl; kernel_rfl; exact Z4) | (apply W.drawQ (id := 19) (l1 := [0, 1, 2, 3, 4, 5, 6, 7, 8, 9, 10, 11, 12, 13, 14, 15, 16, 17, 18, 19]) (l2 := []); kernel_rfl; kernel_rfl; kernel_rfl; exact Z4) | refine go1 ?_ | (apply U6; exact Z1; exact Z1; (focus (simp only [List.nil_append, List.append_nil]; first | exact k73 _ | exact k73t _ | exact k68l _ | exact k68h _ | exact k70l _ | exact k70h _ | exact k71l _ | exact k71h _)); simp only [pM, pN, rR, rP]) | refine go2 (fun hh => ?_) (fun hh => ?_) | fail)
          all_goals refine contH_mk (by first | assumption | exact HLT0.out) (by simp only [keepE, and_true, and_self, go_sem, *, Nat.reduceLT, Int.reduceEq, Int.reduceBEq, Int.reduceLE, Int.reduceLT, Nat.reduceAdd, Nat.reduceBEq, Nat.reduceEqDiff, reduceIte, Nat.reduceLeDiff, Nat.reduceMul, Nat.reduceSub, reduceCtorEq]) (by simp only [keepL, and_true, and_self, go_sem, *, Nat.reduceLT, Int.reduceEq, Int.reduceBEq, Int.reduceLE, Int.reduceLT, Nat.reduceAdd, Nat.reduceBEq, Nat.reduceEqDiff, reduceIte, Nat.reduceLeDiff, Nat.reduceMul, Nat.reduceSub, reduceCtorEq]) ?_
          all_goals refine ⟨?_, ?_, ?_⟩
          all_goals first | exact Z2 | skip
          ·rw [HY1.out]; simp only [go_sem, *, Nat.reduceLT, Int.reduceEq, Int.reduceBEq, Int.reduceLE, Int.reduceLT, Nat.reduceAdd, Nat.reduceBEq, Nat.reduceEqDiff, reduceIte, Nat.reduceLeDiff, Nat.reduceMul, Nat.reduceSub, reduceCtorEq]
          ·rw [HY2.out]; simp only [go_sem, *, Nat.reduceLT, Int.reduceEq, Int.reduceBEq, Int.reduceLE, Int.reduceLT, Nat.reduceAdd, Nat.reduceBEq, Nat.reduceEqDiff, reduceIte, Nat.reduceLeDiff, Nat.reduceMul, Nat.reduceSub, reduceCtorEq]
        ·have hd0 : decide ((k : Int) < (((failsH m).length : Nat) : Int)) = false := by first | (simpa using hlt; done) | (simp only [decide_eq_false_iff_not]; omega)
         obtain rfl : k = (failsH m).length := by omega
         rw [List.take_length] at h13 h14
         rw [HZ1.out] at h13
         rw [HZ2.out] at h14
         repeat' (first | refine goS ?_ | (apply U6; exact Z1; exact Z1; (focus (simp only [List.nil_append, List.append_nil]; first | exact k22 _)); simp only [pM, pN, rR, rP]) | refine go2 (fun hh => ?_) (fun hh => ?_) | fail)
         all_goals (simp only [resV_def (X := dX c17) Tryz.func17, Tryz.results17]; first | exact J5 | refine J6 ?_)
         all_goals rfl
end Go.AM
