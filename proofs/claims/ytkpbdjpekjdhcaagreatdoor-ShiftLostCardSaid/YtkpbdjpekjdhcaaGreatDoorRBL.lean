/-
  A part of the proof: contracts of functions.
-/
import Derived.Test.YtkpbdjpekjdhcaaGreatDoorRBJ
import Derived.Test.YtkpbdjpekjdhcaaGreatDoorRBK
import Derived.Test.YtkpbdjpekjdhcaaGreatDoorRAU
set_option linter.unusedSectionVars false
set_option linter.unusedVariables false
set_option linter.unusedSimpArgs false
set_option maxRecDepth 100000
namespace Go.AM
open Go Go.Proofs
variable [Keep]
attribute [local irreducible] W WO WO1 WD WQ WT thenQ blockQ endR isRet retK Cl ClR
open Go.TX (Rm Fa Ha Hs)
attribute [local irreducible] houseB pathB airS failsH rosB rosR stafB keptR danL fitsB highG lowG brV
noncomputable def c18 : Itr
 | 21 => some (pureFn sp21S)
 | 22 => some (pureFn sp22)
 | 24 => some (flatFnD sp82)
 | 53 => some (pureFn sp53)
 | 68 => some (pureFn sp68)
 | 73 => some (newQ sp73)
 | 84 => some (pureFn sp84)
 | 85 => some (pureFn sp85)
 | _ => none
theorem c18_sound (hT : TabK Tryz.prog) : Sound (dX c18) := dX_sound (fun f g h => by
 unfold c18 at h
 split at h
 ·cases h; exact F21S
 ·cases h; exact F22 hT
 ·cases h; exact F24D
 ·cases h; exact F53
 ·cases h; exact F68
 ·cases h; exact F73
 ·cases h; exact F84
 ·cases h; exact F85
 ·cases h)
theorem hc18 : CxR c18 := ⟨rfl, rfl, rfl, rfl, rfl, rfl, rfl, rfl⟩
theorem grid_lis' {g : List (List Int)} {R n : Nat} {B : Int} (q : GOk g R n B) (hR : R ≤ 100) (hn : n ≤ 100) : lisV (slN (rowsE g)) = some g :=
 rows_lis (by rw [q.len]; unfold maxL; omega) fun l hl => by rw [q.row l hl]; unfold maxL; omega
set_option maxHeartbeats 16000000 in
theorem T18 (ra fa oa ha lv dv : AV) (m : Hs) (l g : List (List Int)) (x : Fk) (v : HsI m ra fa oa ha) (ql : LsI lv l) (q : LsI dv g) : ClR (dX c18) 18 [.agg [.int .i64 m.hours, ra, fa, oa, ha], lv, .agg [dv, .int .i64 x.what, .int .i64 x.num, .int .i64 x.hour]] emptyHp (isRet (.bool true)) := by
 have o1 := v.r.out
 have o2 := v.f.out
 have o3 := v.o.out
 have o4 := v.h.out
 have od := q.out
 have ol := ql.out
 have k22 : ∀ h, Cl (dX c18) 22 [] h (.ret (.bool true) h none) := fun h => K22 rfl h
 have k21 := fun h => K21I (X := dX c18) rfl v h
 have k51 := fun h => C51 (c := c18) rfl lv l ql h
 have k51b := fun h => C51 (c := c18) rfl dv g q h
 have q0 : ((0 : Int) == 0) = true := rfl
 have n0 : ((0 : Int) != 0) = false := rfl
 have n5 : ((5 : Int) != 0) = true := rfl
 have n55 : ((5 : Int) != 5) = false := rfl
 have q5 : ((5 : Int) == 0) = false := rfl
 have tt : (true && true) = true := rfl
 cases gs : shortB m with
 | false =>
  rw [gs] at k21
  clear v q ql gs
  refine ClR.walk (c := _) rfl Tryz.func18 rfl (by kernel_rfl) rfl isRet_fail ?_
  try simp only [entryEnv, Nat.reduceAdd, List.nil_append, List.cons_append, emptyHp]
  repeat' (first | refine goS ?_ | (apply U6; exact Z1; exact Z1; (focus (simp only [List.nil_append, List.append_nil]; first | exact k21 _ | exact k22 _)); simp only [pM, pN, rR, rP]) | refine go2 (fun hh => ?_) (fun hh => ?_) | fail)
  all_goals (simp only [resV_def (X := dX c18) Tryz.func18, Tryz.results18]; first | exact J5 | refine J6 ?_)
  all_goals rfl
 | true =>
  rw [gs] at k21
  cases gl : sizedL l with
  | false =>
   rw [gl] at k51
   clear v q ql gs gl
   refine ClR.walk (c := _) rfl Tryz.func18 rfl (by kernel_rfl) rfl isRet_fail ?_
   try simp only [entryEnv, Nat.reduceAdd, List.nil_append, List.cons_append, emptyHp]
   repeat' (first | refine goS ?_ | (apply U6; exact Z1; exact Z1; (focus (simp only [List.nil_append, List.append_nil]; first | exact k21 _ | exact k22 _ | exact k51 _)); simp only [pM, pN, rR, rP]) | refine go2 (fun hh => ?_) (fun hh => ?_) | fail)
   all_goals (simp only [resV_def (X := dX c18) Tryz.func18, Tryz.results18]; first | exact J5 | refine J6 ?_)
   all_goals rfl
  | true =>
   rw [gl] at k51
   cases gd : sizedL g with
   | false =>
    rw [gd] at k51b
    clear v q ql gs gl gd
    refine ClR.walk (c := _) rfl Tryz.func18 rfl (by kernel_rfl) rfl isRet_fail ?_
    try simp only [entryEnv, Nat.reduceAdd, List.nil_append, List.cons_append, emptyHp]
    repeat' (first | refine goS ?_ | (apply U6; exact Z1; exact Z1; (focus (simp only [List.nil_append, List.append_nil]; first | exact k21 _ | exact k22 _ | exact k51 _ | exact k51b _)); simp only [pM, pN, rR, rP]) | refine go2 (fun hh => ?_) (fun hh => ?_) | fail)
    all_goals (simp only [resV_def (X := dX c18) Tryz.func18, Tryz.results18]; first | exact J5 | refine J6 ?_)
    all_goals rfl
   | true =>
    rw [gd] at k51b
    have hA := v.short gs
    have hg := q.sized gd
    have hl := ql.sized gl
    have k24 := fun h => K24p (X := dX c18) rfl hA h
    cases hb : houseB m with
    | false =>
     rw [hb] at k24
     clear v q ql gs gl gd hA hg hl hb
     refine ClR.walk (c := _) rfl Tryz.func18 rfl (by kernel_rfl) rfl isRet_fail ?_
     try simp only [entryEnv, Nat.reduceAdd, List.nil_append, List.cons_append, emptyHp]
     repeat' (first | refine goS ?_ | (apply U6; exact Z1; exact Z1; (focus (simp only [List.nil_append, List.append_nil]; first | exact k21 _ | exact k22 _ | exact k51 _ | exact k51b _ | exact k24 _)); simp only [pM, pN, rR, rP]) | refine go2 (fun hh => ?_) (fun hh => ?_) | fail)
     all_goals (simp only [resV_def (X := dX c18) Tryz.func18, Tryz.results18]; first | exact J5 | refine J6 ?_)
     all_goals rfl
    | true =>
     rw [hb] at k24
     have ho := house_ok hb
     have k54 := fun h => C54 hc18 rfl rfl m ra fa oa ha lv l hA hl ho h
     rw [← ros_same ho] at k54
     cases hr : rosB m l with
     | false =>
      rw [hr] at k54
      clear v q ql gs gl gd hA hg hl hb ho hr
      refine ClR.walk (c := _) rfl Tryz.func18 rfl (by kernel_rfl) rfl isRet_fail ?_
      try simp only [entryEnv, Nat.reduceAdd, List.nil_append, List.cons_append, emptyHp]
      repeat' (first | refine goS ?_ | (apply U6; exact Z1; exact Z1; (focus (simp only [List.nil_append, List.append_nil]; first | exact k21 _ | exact k22 _ | exact k51 _ | exact k51b _ | exact k24 _ | exact k54 _)); simp only [pM, pN, rR, rP]) | refine go2 (fun hh => ?_) (fun hh => ?_) | fail)
      all_goals (simp only [resV_def (X := dX c18) Tryz.func18, Tryz.results18]; first | exact J5 | refine J6 ?_)
      all_goals rfl
     | true =>
      rw [hr] at k54
      have hro := ros_ok hr
      have k66 := fun h => C66 (c := c18) hc18 rfl m x ra fa oa ha dv g hA hg h
      cases hs : sizedB m g x with
      | false =>
       rw [hs] at k66
       clear v q ql gs gl gd hA hg hl hb ho hr hro hs
       refine ClR.walk (c := _) rfl Tryz.func18 rfl (by kernel_rfl) rfl isRet_fail ?_
       try simp only [entryEnv, Nat.reduceAdd, List.nil_append, List.cons_append, emptyHp]
       repeat' (first | refine goS ?_ | (apply U6; exact Z1; exact Z1; (focus (simp only [List.nil_append, List.append_nil]; first | exact k21 _ | exact k22 _ | exact k51 _ | exact k51b _ | exact k24 _ | exact k54 _ | exact k66 _)); simp only [pM, pN, rR, rP]) | refine go2 (fun hh => ?_) (fun hh => ?_) | fail)
       all_goals (simp only [resV_def (X := dX c18) Tryz.func18, Tryz.results18]; first | exact J5 | refine J6 ?_)
       all_goals rfl
      | true =>
       rw [hs] at k66
       obtain ⟨s1, s2, s3⟩ := sized_is hs
       obtain ⟨nn, hnn, hnt, hn1, hn4, hol⟩ := ho_parts ho
       have k67 := fun h => C67 (c := c18) hc18 rfl m x ra fa oa ha dv g hA hg nn hnn (by omega) s2 (fun r hr => by have := s1 r hr; omega) h
       cases hf : fitsB m g with
       | false =>
        rw [hf] at k67
        clear v q ql gs gl gd hA hg hl hb ho hr hro hs s1 s2 s3 hnn hnt hn1 hn4 hol hf
        refine ClR.walk (c := _) rfl Tryz.func18 rfl (by kernel_rfl) rfl isRet_fail ?_
        try simp only [entryEnv, Nat.reduceAdd, List.nil_append, List.cons_append, emptyHp]
        repeat' (first | refine goS ?_ | (apply U6; exact Z1; exact Z1; (focus (simp only [List.nil_append, List.append_nil]; first | exact k21 _ | exact k22 _ | exact k51 _ | exact k51b _ | exact k24 _ | exact k54 _ | exact k66 _ | exact k67 _)); simp only [pM, pN, rR, rP]) | refine go2 (fun hh => ?_) (fun hh => ?_) | fail)
        all_goals (simp only [resV_def (X := dX c18) Tryz.func18, Tryz.results18]; first | exact J5 | refine J6 ?_)
        all_goals rfl
       | true =>
        rw [hf] at k67
        have hss := sized_shape ho g x
        rw [hs] at hss
        have hsm : (findF x (failsH m)).isSome = true := by
         have := hss.symm
         simp only [Bool.and_eq_true] at this
         exact this.2
        obtain ⟨t, htt0⟩ := Option.isSome_iff_exists.1 hsm
        have e2 : runV m g x = .tuple [slN (rowsE (runG m t g)), .int .i64 0] := by unfold runV isTruth runG; rw [hf, hb, Bool.true_and, ← hss, htt0]; rfl
        have k53 := fun h => K53 (X := dX c18) rfl hA hl h
        have k68 := fun h => K68 (X := dX c18) rfl hA hg x h
        rw [e2] at k68
        have hgo := runG_ok ho t hf s2
        have hr3 := ho.rooms
        have hh4 := ho.hands
        have hli := grid_lis' hgo (by omega) (by omega)
        have or := lis_out hli
        have k70 := fun h => C70 (c := c18) rfl m ra fa oa ha _ _ hA ho hli hgo h
        have h71 := fun pa p (hp : slV intC pa = some p) (hq : pathB m p = true) h => C71 (c := c18) rfl pa _ p _ h (pth_of hp) hli _ (brV_is ho hq hgo).1
        obtain ⟨htm, htx⟩ := find_some htt0
        have hlost := fun (i : Nat) (p : List Int) (hi : l[i]? = some p) h => lost_law (dg := g) ho hro.path htm hf s2 s1 hi h
        have ld := lis_len hl
        have mdl := lis_max hl
        have hlen := hro.len
        have H71 := Lib.hid h71
        have HM := Lib.hid hA
        have HL := Lib.hid hl
        have HRO := Lib.hid hro
        cases hd : danL m l l.length with
        | none =>
         have e1 : danV m l = .tuple [.agg [.int .i64 0, .int .i64 0, .int .i64 0, .int .i64 0], .int .i64 5] := by unfold danV danE; rw [hb, hr, hd]; rfl
         rw [e1] at k53
         obtain ⟨lst, hlst⟩ : ∃ lst, lst = l.length := ⟨_, rfl⟩
         have hbr : ∀ i p, i < lst → l[i]? = some p → brV (runG m t g) p ≤ limAt m i := fun i p hi hp => hlost i p hp (.inl (by have := dan_none.1 hd i (by omega); simpa [List.getD, hp] using this))
         have hle : lst ≤ l.length := by omega
         rw [← hlst] at ld
         clear e1
         have HBR := Lib.hid hbr
         have HLE := Lib.hid hle
         have HLEN := Lib.hid hlen
         have HMD := Lib.hid mdl
         have HH4 := Lib.hid hh4
         clear v q ql gs gl gd hA hg hl hb ho hr hro hs s1 s2 s3 hnn hnt hn1 hn4 hol hf hss hsm htt0 e2 hgo hr3 hli h71 htm htx hlost hd hbr hle hlen hlst mdl hh4
         generalize slN (rowsE (runG m t g)) = rv at *
         refine ClR.walk (c := _) rfl Tryz.func18 rfl (by kernel_rfl) rfl isRet_fail ?_
         try simp only [entryEnv, Nat.reduceAdd, List.nil_append, List.cons_append, emptyHp]
         repeat' (first | refine goS ?_ | (apply U6; exact Z1; exact Z1; (focus (simp only [List.nil_append, List.append_nil]; first | exact k21 _ | exact k22 _ | exact k51 _ | exact k51b _ | exact k24 _ | exact k54 _ | exact k66 _ | exact k67 _ | exact k53 _ | exact k68 _ | exact k70 _)); simp only [pM, pN, rR, rP]) | refine go2 (fun hh => ?_) (fun hh => ?_) | fail)
         refine W.loopH (lst) [1, 3, 9, 11] [3] (fun k e lm => e.get 14 = some (.int .i64 ↑k)) ?_ ?_
         ·first | exact Z2 | rfl | assumption | (simp [go_sem, *]; done)
         intro k e lm hk0 hce hcl hinv
         simp only [keepE, and_true] at hce
         obtain ⟨c1, c3, c9, c11⟩ := hce
         simp only [go_sem, *, Nat.reduceLT, Int.reduceEq, Int.reduceBEq, Int.reduceLE, Int.reduceLT, Nat.reduceAdd, Nat.reduceBEq, Nat.reduceEqDiff, reduceIte, Nat.reduceLeDiff, Nat.reduceMul, Nat.reduceSub, reduceCtorEq] at c1 c3 c9 c11
         simp only [keepL, and_true] at hcl
         have d3 := hcl
         clear hcl
         simp only [go_sem, *, Nat.reduceLT, Int.reduceEq, Int.reduceBEq, Int.reduceLE, Int.reduceLT, Nat.reduceAdd, Nat.reduceBEq, Nat.reduceEqDiff, reduceIte, Nat.reduceLeDiff, Nat.reduceMul, Nat.reduceSub, reduceCtorEq] at d3
         have h14 := hinv
         clear hinv
         by_cases hlt : k < lst
         ·have hd0 : decide ((k : Int) < ((lst : Nat) : Int)) = true := by first | (simpa using hlt; done) | (simp only [decide_eq_true_eq]; omega)
          have hv_0 := wrap_succ hlt (by have := HLE.out; have := HMD.out; omega)
          obtain ⟨p, hp⟩ := get_some (l := l) (k := k) (by have := HLE.out; omega)
          obtain ⟨b, hb1, hb2⟩ := lis_idx HL.out hp
          obtain ⟨w, hw⟩ := get_some (l := m.hands) (k := k) (by have := HLE.out; have := HLEN.out; omega)
          have hix := fun H => has_idx HM.out.h hw H
          have hlx : limAt m k = w.limit := by unfold limAt; rw [hw]
          have k71 := H71.out b p hb1 (HRO.out.path p (List.mem_of_getElem? hp))
          have hno : decide (brV (runG m t g) p > w.limit) = false := by
           have := HBR.out k p hlt hp
           simp only [decide_eq_false_iff_not]
           omega
          have ob := sl_out hb1
          have hcb := (slV_is hb1).1.cells
          have htb := (slV_is hb1).1.tup
          simp only [AV.cells] at hcb
          simp only [isTuple] at htb
          have HLT0 := Lib.hid hlt
          clear hp hb1 hw hlx hlt
          generalize brV (runG m t g) p = bv at *
          repeat' (first | (apply W.drawQ (id := 11) (l1 := [0, 1, 2, 3, 4, 5, 6, 7, 8, 9, 10]) (l2 := []); kernel_rfl; kernel_rfl; kernel_rfl; exact Z4) | (apply W.drawQ (id := 12) (l1 := [0, 1, 2, 3, 4, 5, 6, 7, 8, 9, 10, 11, 12, 13, 14, 15, 16, 17, 18, 19, 20, 21, 22, 23, 24]) (l2 := []); kernel_rfl; kernel_rfl; kernel_rfl; exact Z4) | (apply W.drawQ (id := 20) (l1 := [0, 1, 2, 3, 4, 5, 6, 7, 8, 9, 10, 11, 12]) (l2 := []); kernel_rfl; kernel_rfl; kernel_rfl; exact Z4) | refine go1 ?_ | (apply U6; exact Z1; exact Z1; (focus (simp only [List.nil_append, List.append_nil]; first | exact k71 _)); simp only [pM, pN, rR, rP]) | refine go2 (fun hh => ?_) (fun hh => ?_) | fail)
          all_goals refine contH_mk (by first | assumption | exact HLT0.out | exact HLT0.out) (by simp only [keepE, and_true, and_self, go_sem, *, Nat.reduceLT, Int.reduceEq, Int.reduceBEq, Int.reduceLE, Int.reduceLT, Nat.reduceAdd, Nat.reduceBEq, Nat.reduceEqDiff, reduceIte, Nat.reduceLeDiff, Nat.reduceMul, Nat.reduceSub, reduceCtorEq]) (by simp only [keepL, and_true, and_self, go_sem, *, Nat.reduceLT, Int.reduceEq, Int.reduceBEq, Int.reduceLE, Int.reduceLT, Nat.reduceAdd, Nat.reduceBEq, Nat.reduceEqDiff, reduceIte, Nat.reduceLeDiff, Nat.reduceMul, Nat.reduceSub, reduceCtorEq]) ?_
          all_goals first | exact Z2 | skip
         ·have hd0 : decide ((k : Int) < ((lst : Nat) : Int)) = false := by first | (simpa using hlt; done) | (simp only [decide_eq_false_iff_not]; omega)
          obtain rfl : k = lst := by omega
          repeat' (first | refine goS ?_ | (apply U6; exact Z1; exact Z1; (focus (simp only [List.nil_append, List.append_nil]; first | exact k22 _)); simp only [pM, pN, rR, rP]) | refine go2 (fun hh => ?_) (fun hh => ?_) | fail)
          all_goals (simp only [resV_def (X := dX c18) Tryz.func18, Tryz.results18]; first | exact J5 | refine J6 ?_)
          all_goals rfl
        | some y =>
         obtain ⟨i, f⟩ := y
         have e1 : danV m l = .tuple [.agg [.int .i64 i, .int .i64 f.tell.what, .int .i64 f.tell.num, .int .i64 f.tell.hour], .int .i64 0] := by unfold danV danE; rw [hb, hr, hd]; rfl
         rw [e1] at k53
         obtain ⟨y1, y2, y3⟩ := dan_some hd
         obtain ⟨pi, hpi⟩ := get_some (l := l) (k := i) y1
         have hgi : l.getD i [] = pi := by simp [List.getD, hpi]
         rw [hgi] at y2
         obtain ⟨y4, y5, y6⟩ := dan1_some y2
         obtain ⟨bi, hbi1, hbi2⟩ := lis_idx hl hpi
         obtain ⟨wi, hwi⟩ := get_some (l := m.hands) (k := i) (by omega)
         have hixi := fun H => has_idx hA.h hwi H
         have hlx : limAt m i = wi.limit := by unfold limAt; rw [hwi]
         have c1 : decide ((i : Int) < 0) = false := by simp only [decide_eq_false_iff_not]; omega
         have c2 : decide ((i : Int) ≥ (l.length : Int)) = false := by simp only [decide_eq_false_iff_not]; omega
         have k38 := fun h => C38 hc18 m f.tell ra fa oa ha hA h
         have hif : isFail m f.tell = true := by
          rw [isFail_find ho]
          cases hq : findF f.tell (failsH m) with
          | some z => rfl
          | none =>
           have : ∀ {ls : List Fl}, f ∈ ls → findF f.tell ls ≠ none := by
            intro ls
            induction ls with
            | nil => intro h; cases h
            | cons a ls ih =>
             intro h
             unfold findF
             split
             ·simp
             ·rename_i hne
              rcases List.mem_cons.1 h with rfl | h
              ·exact absurd (by simp [fkEq]) hne
              ·exact ih h
           exact absurd hq (this y4)
         rw [hif] at k38
         have k73 := fun h => K73 (X := dX c18) rfl hA hb f.tell true h
         have k68h : ∀ h, Cl (dX c18) 68 [.agg [.int .i64 m.hours, ra, fa, oa, ha], .agg [slN (rowsE (endL m true m.hours.toNat m.rooms.length)), .int .i64 f.tell.what, .int .i64 f.tell.num, .int .i64 f.tell.hour]] h (.ret (.tuple [slN (rowsE (highG m f)), .int .i64 0]) h none) := fun h => by
          have := K68 (X := dX c18) rfl hA (end_lis ho true) f.tell h
          rw [end_truth hb true y4] at this
          exact this
         have k70h := fun h => C70 (c := c18) rfl m ra fa oa ha _ _ hA ho (high_lis ho f) (high_ok ho f) h
         have hqi := hro.path pi (List.mem_of_getElem? hpi)
         have k71h := fun h => C71 (c := c18) rfl bi _ pi _ h (pth_of hbi1) (high_lis ho f) _ (brV_is ho hqi (high_ok ho f)).1
         have c3 : decide (brV (highG m f) pi ≤ wi.limit) = false := by simp only [decide_eq_false_iff_not]; omega
         have k74 := fun h => C74 (c := c18) rfl x f.tell h
         have oe1 := lis_out (end_lis ho true)
         have oe2 := (slN_is (rowsE (highG m f))).out
         have obi := sl_out hbi1
         have hcbi := (slV_is hbi1).1.cells
         have htbi := (slV_is hbi1).1.tup
         simp only [AV.cells] at hcbi
         simp only [isTuple] at htbi
         simp only [fkC] at k38 k73 k74
         cases he : earB x f.tell with
         | false =>
          rw [he] at k74
          obtain ⟨lst, hlst⟩ : ∃ lst, lst = i := ⟨_, rfl⟩
          have hbr : ∀ k p, k < lst → l[k]? = some p → brV (runG m t g) p ≤ limAt m k := fun k p hi hp => hlost k p hp (.inl (by have := y3 k (by omega); simpa [List.getD, hp] using this))
          have hle : lst ≤ l.length := by omega
          subst hlst
          have hlst : True := trivial
          clear e1 y1 y2 y3 y4 y5 y6 hpi hgi hbi1 hwi hlx hif hqi he
          have HBR := Lib.hid hbr
          have HLE := Lib.hid hle
          have HLEN := Lib.hid hlen
          have HMD := Lib.hid mdl
          have HH4 := Lib.hid hh4
          clear v q ql gs gl gd hA hg hl hb ho hr hro hs s1 s2 s3 hnn hnt hn1 hn4 hol hf hss hsm htt0 e2 hgo hr3 hli h71 htm htx hlost hd hbr hle hlen hlst mdl hh4
          generalize slN (rowsE (runG m t g)) = rv at *
          generalize slN (rowsE (highG m f)) = gh at *
          generalize slN (rowsE (endL m true m.hours.toNat m.rooms.length)) = ge at *
          generalize brV (highG m f) pi = bh at *
          generalize f.tell.what = fw at *
          generalize f.tell.num = fm at *
          generalize f.tell.hour = fh at *
          refine ClR.walk (c := _) rfl Tryz.func18 rfl (by kernel_rfl) rfl isRet_fail ?_
          try simp only [entryEnv, Nat.reduceAdd, List.nil_append, List.cons_append, emptyHp]
          repeat' (first | (apply W.drawQ (id := 11) (l1 := [0, 1, 2, 3, 4, 5, 6, 7, 8, 9, 10]) (l2 := []); kernel_rfl; kernel_rfl; kernel_rfl; exact Z4) | (apply W.drawQ (id := 12) (l1 := [0, 1, 2, 3, 4, 5, 6, 7, 8, 9, 10, 11, 12, 13, 14, 15, 16, 17, 18, 19, 20, 21, 22, 23, 24]) (l2 := []); kernel_rfl; kernel_rfl; kernel_rfl; exact Z4) | (apply W.drawQ (id := 20) (l1 := [0, 1, 2, 3, 4, 5, 6, 7, 8, 9, 10, 11, 12]) (l2 := []); kernel_rfl; kernel_rfl; kernel_rfl; exact Z4) | refine go1 ?_ | (apply U6; exact Z1; exact Z1; (focus (simp only [List.nil_append, List.append_nil]; first | exact k21 _ | exact k22 _ | exact k51 _ | exact k51b _ | exact k24 _ | exact k54 _ | exact k66 _ | exact k67 _ | exact k53 _ | exact k68 _ | exact k70 _ | exact k38 _ | exact k73 _ | exact k68h _ | exact k70h _ | exact k71h _ | exact k74 _)); simp only [pM, pN, rR, rP]) | refine go2 (fun hh => ?_) (fun hh => ?_) | fail)
          refine W.loopH (lst) [1, 3, 9, 11] [3] (fun k e lm => e.get 14 = some (.int .i64 ↑k)) ?_ ?_
          ·first | exact Z2 | rfl | assumption | (simp [go_sem, *]; done)
          intro k e lm hk0 hce hcl hinv
          simp only [keepE, and_true] at hce
          obtain ⟨c1, c3, c9, c11⟩ := hce
          simp only [go_sem, *, Nat.reduceLT, Int.reduceEq, Int.reduceBEq, Int.reduceLE, Int.reduceLT, Nat.reduceAdd, Nat.reduceBEq, Nat.reduceEqDiff, reduceIte, Nat.reduceLeDiff, Nat.reduceMul, Nat.reduceSub, reduceCtorEq] at c1 c3 c9 c11
          simp only [keepL, and_true] at hcl
          have d3 := hcl
          clear hcl
          simp only [go_sem, *, Nat.reduceLT, Int.reduceEq, Int.reduceBEq, Int.reduceLE, Int.reduceLT, Nat.reduceAdd, Nat.reduceBEq, Nat.reduceEqDiff, reduceIte, Nat.reduceLeDiff, Nat.reduceMul, Nat.reduceSub, reduceCtorEq] at d3
          have h14 := hinv
          clear hinv
          by_cases hlt : k < lst
          ·have hd0 : decide ((k : Int) < ((lst : Nat) : Int)) = true := by first | (simpa using hlt; done) | (simp only [decide_eq_true_eq]; omega)
           have hv_0 := wrap_succ hlt (by have := HLE.out; have := HMD.out; omega)
           obtain ⟨p, hp⟩ := get_some (l := l) (k := k) (by have := HLE.out; omega)
           obtain ⟨b, hb1, hb2⟩ := lis_idx HL.out hp
           obtain ⟨w, hw⟩ := get_some (l := m.hands) (k := k) (by have := HLE.out; have := HLEN.out; omega)
           have hix := fun H => has_idx HM.out.h hw H
           have hlx : limAt m k = w.limit := by unfold limAt; rw [hw]
           have k71 := H71.out b p hb1 (HRO.out.path p (List.mem_of_getElem? hp))
           have hno : decide (brV (runG m t g) p > w.limit) = false := by
            have := HBR.out k p hlt hp
            simp only [decide_eq_false_iff_not]
            omega
           have ob := sl_out hb1
           have hcb := (slV_is hb1).1.cells
           have htb := (slV_is hb1).1.tup
           simp only [AV.cells] at hcb
           simp only [isTuple] at htb
           have HLT0 := Lib.hid hlt
           clear hp hb1 hw hlx hlt
           generalize brV (runG m t g) p = bv at *
           repeat' (first | (apply W.drawQ (id := 11) (l1 := [0, 1, 2, 3, 4, 5, 6, 7, 8, 9, 10]) (l2 := []); kernel_rfl; kernel_rfl; kernel_rfl; exact Z4) | (apply W.drawQ (id := 12) (l1 := [0, 1, 2, 3, 4, 5, 6, 7, 8, 9, 10, 11, 12, 13, 14, 15, 16, 17, 18, 19, 20, 21, 22, 23, 24]) (l2 := []); kernel_rfl; kernel_rfl; kernel_rfl; exact Z4) | (apply W.drawQ (id := 20) (l1 := [0, 1, 2, 3, 4, 5, 6, 7, 8, 9, 10, 11, 12]) (l2 := []); kernel_rfl; kernel_rfl; kernel_rfl; exact Z4) | refine go1 ?_ | (apply U6; exact Z1; exact Z1; (focus (simp only [List.nil_append, List.append_nil]; first | exact k71 _)); simp only [pM, pN, rR, rP]) | refine go2 (fun hh => ?_) (fun hh => ?_) | fail)
           all_goals refine contH_mk (by first | assumption | exact HLT0.out | exact HLT0.out) (by simp only [keepE, and_true, and_self, go_sem, *, Nat.reduceLT, Int.reduceEq, Int.reduceBEq, Int.reduceLE, Int.reduceLT, Nat.reduceAdd, Nat.reduceBEq, Nat.reduceEqDiff, reduceIte, Nat.reduceLeDiff, Nat.reduceMul, Nat.reduceSub, reduceCtorEq]) (by simp only [keepL, and_true, and_self, go_sem, *, Nat.reduceLT, Int.reduceEq, Int.reduceBEq, Int.reduceLE, Int.reduceLT, Nat.reduceAdd, Nat.reduceBEq, Nat.reduceEqDiff, reduceIte, Nat.reduceLeDiff, Nat.reduceMul, Nat.reduceSub, reduceCtorEq]) ?_
           all_goals first | exact Z2 | skip
          ·have hd0 : decide ((k : Int) < ((lst : Nat) : Int)) = false := by first | (simpa using hlt; done) | (simp only [decide_eq_false_iff_not]; omega)
           obtain rfl : k = lst := by omega
           repeat' (first | refine goS ?_ | (apply U6; exact Z1; exact Z1; (focus (simp only [List.nil_append, List.append_nil]; first | exact k22 _)); simp only [pM, pN, rR, rP]) | refine go2 (fun hh => ?_) (fun hh => ?_) | fail)
           all_goals (simp only [resV_def (X := dX c18) Tryz.func18, Tryz.results18]; first | exact J5 | refine J6 ?_)
           all_goals rfl
         | true =>
          rw [he] at k74
          obtain ⟨lst, hlst⟩ : ∃ lst, lst = i + 1 := ⟨_, rfl⟩
          have hbr : ∀ k p, k < lst → l[k]? = some p → brV (runG m t g) p ≤ limAt m k := fun k p hi hp => hlost k p hp (by
           by_cases e : k = i
           ·subst e
            rw [hpi] at hp
            obtain rfl := Option.some.inj hp
            exact .inr ⟨f, y2, by rw [htx]; exact he⟩
           ·exact .inl (by have := y3 k (by omega); simpa [List.getD, hp] using this))
          have hle : lst ≤ l.length := by omega
          have hwl : IntKind.i64.wrap ((i : Int) + 1) = ((lst : Nat) : Int) := by rw [hlst]; exact wrap_succ (m := l.length) y1 mdl
          clear e1 y1 y2 y3 y4 y5 y6 hpi hgi hbi1 hwi hlx hif hqi he
          have HBR := Lib.hid hbr
          have HLE := Lib.hid hle
          have HLEN := Lib.hid hlen
          have HMD := Lib.hid mdl
          have HH4 := Lib.hid hh4
          clear v q ql gs gl gd hA hg hl hb ho hr hro hs s1 s2 s3 hnn hnt hn1 hn4 hol hf hss hsm htt0 e2 hgo hr3 hli h71 htm htx hlost hd hbr hle hlen hlst mdl hh4
          generalize slN (rowsE (runG m t g)) = rv at *
          generalize slN (rowsE (highG m f)) = gh at *
          generalize slN (rowsE (endL m true m.hours.toNat m.rooms.length)) = ge at *
          generalize brV (highG m f) pi = bh at *
          generalize f.tell.what = fw at *
          generalize f.tell.num = fm at *
          generalize f.tell.hour = fh at *
          refine ClR.walk (c := _) rfl Tryz.func18 rfl (by kernel_rfl) rfl isRet_fail ?_
          try simp only [entryEnv, Nat.reduceAdd, List.nil_append, List.cons_append, emptyHp]
          repeat' (first | (apply W.drawQ (id := 11) (l1 := [0, 1, 2, 3, 4, 5, 6, 7, 8, 9, 10]) (l2 := []); kernel_rfl; kernel_rfl; kernel_rfl; exact Z4) | (apply W.drawQ (id := 12) (l1 := [0, 1, 2, 3, 4, 5, 6, 7, 8, 9, 10, 11, 12, 13, 14, 15, 16, 17, 18, 19, 20, 21, 22, 23, 24]) (l2 := []); kernel_rfl; kernel_rfl; kernel_rfl; exact Z4) | (apply W.drawQ (id := 20) (l1 := [0, 1, 2, 3, 4, 5, 6, 7, 8, 9, 10, 11, 12]) (l2 := []); kernel_rfl; kernel_rfl; kernel_rfl; exact Z4) | refine go1 ?_ | (apply U6; exact Z1; exact Z1; (focus (simp only [List.nil_append, List.append_nil]; first | exact k21 _ | exact k22 _ | exact k51 _ | exact k51b _ | exact k24 _ | exact k54 _ | exact k66 _ | exact k67 _ | exact k53 _ | exact k68 _ | exact k70 _ | exact k38 _ | exact k73 _ | exact k68h _ | exact k70h _ | exact k71h _ | exact k74 _)); simp only [pM, pN, rR, rP]) | refine go2 (fun hh => ?_) (fun hh => ?_) | fail)
          refine W.loopH (lst) [1, 3, 9, 11] [3] (fun k e lm => e.get 14 = some (.int .i64 ↑k)) ?_ ?_
          ·first | exact Z2 | rfl | assumption | (simp [go_sem, *]; done)
          intro k e lm hk0 hce hcl hinv
          simp only [keepE, and_true] at hce
          obtain ⟨c1, c3, c9, c11⟩ := hce
          simp only [go_sem, *, Nat.reduceLT, Int.reduceEq, Int.reduceBEq, Int.reduceLE, Int.reduceLT, Nat.reduceAdd, Nat.reduceBEq, Nat.reduceEqDiff, reduceIte, Nat.reduceLeDiff, Nat.reduceMul, Nat.reduceSub, reduceCtorEq] at c1 c3 c9 c11
          simp only [keepL, and_true] at hcl
          have d3 := hcl
          clear hcl
          simp only [go_sem, *, Nat.reduceLT, Int.reduceEq, Int.reduceBEq, Int.reduceLE, Int.reduceLT, Nat.reduceAdd, Nat.reduceBEq, Nat.reduceEqDiff, reduceIte, Nat.reduceLeDiff, Nat.reduceMul, Nat.reduceSub, reduceCtorEq] at d3
          have h14 := hinv
          clear hinv
          by_cases hlt : k < lst
          ·have hd0 : decide ((k : Int) < ((lst : Nat) : Int)) = true := by first | (simpa using hlt; done) | (simp only [decide_eq_true_eq]; omega)
           have hv_0 := wrap_succ hlt (by have := HLE.out; have := HMD.out; omega)
           obtain ⟨p, hp⟩ := get_some (l := l) (k := k) (by have := HLE.out; omega)
           obtain ⟨b, hb1, hb2⟩ := lis_idx HL.out hp
           obtain ⟨w, hw⟩ := get_some (l := m.hands) (k := k) (by have := HLE.out; have := HLEN.out; omega)
           have hix := fun H => has_idx HM.out.h hw H
           have hlx : limAt m k = w.limit := by unfold limAt; rw [hw]
           have k71 := H71.out b p hb1 (HRO.out.path p (List.mem_of_getElem? hp))
           have hno : decide (brV (runG m t g) p > w.limit) = false := by
            have := HBR.out k p hlt hp
            simp only [decide_eq_false_iff_not]
            omega
           have ob := sl_out hb1
           have hcb := (slV_is hb1).1.cells
           have htb := (slV_is hb1).1.tup
           simp only [AV.cells] at hcb
           simp only [isTuple] at htb
           have HLT0 := Lib.hid hlt
           clear hp hb1 hw hlx hlt
           generalize brV (runG m t g) p = bv at *
           repeat' (first | (apply W.drawQ (id := 11) (l1 := [0, 1, 2, 3, 4, 5, 6, 7, 8, 9, 10]) (l2 := []); kernel_rfl; kernel_rfl; kernel_rfl; exact Z4) | (apply W.drawQ (id := 12) (l1 := [0, 1, 2, 3, 4, 5, 6, 7, 8, 9, 10, 11, 12, 13, 14, 15, 16, 17, 18, 19, 20, 21, 22, 23, 24]) (l2 := []); kernel_rfl; kernel_rfl; kernel_rfl; exact Z4) | (apply W.drawQ (id := 20) (l1 := [0, 1, 2, 3, 4, 5, 6, 7, 8, 9, 10, 11, 12]) (l2 := []); kernel_rfl; kernel_rfl; kernel_rfl; exact Z4) | refine go1 ?_ | (apply U6; exact Z1; exact Z1; (focus (simp only [List.nil_append, List.append_nil]; first | exact k71 _)); simp only [pM, pN, rR, rP]) | refine go2 (fun hh => ?_) (fun hh => ?_) | fail)
           all_goals refine contH_mk (by first | assumption | exact HLT0.out | exact HLT0.out) (by simp only [keepE, and_true, and_self, go_sem, *, Nat.reduceLT, Int.reduceEq, Int.reduceBEq, Int.reduceLE, Int.reduceLT, Nat.reduceAdd, Nat.reduceBEq, Nat.reduceEqDiff, reduceIte, Nat.reduceLeDiff, Nat.reduceMul, Nat.reduceSub, reduceCtorEq]) (by simp only [keepL, and_true, and_self, go_sem, *, Nat.reduceLT, Int.reduceEq, Int.reduceBEq, Int.reduceLE, Int.reduceLT, Nat.reduceAdd, Nat.reduceBEq, Nat.reduceEqDiff, reduceIte, Nat.reduceLeDiff, Nat.reduceMul, Nat.reduceSub, reduceCtorEq]) ?_
           all_goals first | exact Z2 | skip
          ·have hd0 : decide ((k : Int) < ((lst : Nat) : Int)) = false := by first | (simpa using hlt; done) | (simp only [decide_eq_false_iff_not]; omega)
           obtain rfl : k = lst := by omega
           repeat' (first | refine goS ?_ | (apply U6; exact Z1; exact Z1; (focus (simp only [List.nil_append, List.append_nil]; first | exact k22 _)); simp only [pM, pN, rR, rP]) | refine go2 (fun hh => ?_) (fun hh => ?_) | fail)
           all_goals (simp only [resV_def (X := dX c18) Tryz.func18, Tryz.results18]; first | exact J5 | refine J6 ?_)
           all_goals rfl
end Go.AM
