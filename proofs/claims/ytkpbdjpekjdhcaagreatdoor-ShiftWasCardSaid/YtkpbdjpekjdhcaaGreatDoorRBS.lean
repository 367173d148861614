/-
  A part of the proof: contracts of functions.
-/
import Derived.Test.YtkpbdjpekjdhcaaGreatDoorRBR
import Derived.Test.YtkpbdjpekjdhcaaGreatDoorRBK
import Derived.Test.YtkpbdjpekjdhcaaGreatDoorRBC
import Derived.Test.YtkpbdjpekjdhcaaGreatDoorRBH
import Derived.Test.YtkpbdjpekjdhcaaGreatDoorRBF
set_option linter.unusedSectionVars false
set_option linter.unusedVariables false
set_option linter.unusedSimpArgs false
set_option maxRecDepth 100000
namespace Go.AM
open Go Go.Proofs
variable [Keep]
attribute [local irreducible] W WO WO1 WD WQ WT thenQ blockQ endR isRet retK Cl ClR
open Go.TX (Rm Fa Ha Hs)
theorem addTo_get (f : Int → Int → Int) (out p : List Int) {i : Nat} (hi : i < out.length) : ∀ j, (addTo f out p j).getD i 0 = if i < j then f (out.getD i 0) (p.getD i 0) else out.getD i 0
 | 0 => by simp [addTo]
 | j + 1 => by
  have ih := addTo_get f out p hi j
  have hl := addTo_len f out p j
  rw [addTo]
  by_cases e : i = j
  ·subst e
   rw [if_neg (by omega)] at ih
   have hlt : i < (addTo f out p i).length := by omega
   rw [if_pos (by omega), ← ih]
   simp [List.getD, List.getElem?_set, hlt]
  ·have : ((addTo f out p j).set j (f ((addTo f out p j).getD j 0) (p.getD j 0))).getD i 0 = (addTo f out p j).getD i 0 := by
    simp only [List.getD]
    rw [List.getElem?_set_ne (fun h => e h.symm)]
   rw [this, ih]
   by_cases h : i < j
   ·rw [if_pos h, if_pos (by omega)]
   ·rw [if_neg h, if_neg (by omega)]
theorem fP_has {o r : Int} {q : Nat} (ho : 0 ≤ o ∧ o < 16) (hr : -1 ≤ r ∧ r < 3) (hq : q < 4) (h : hasB o q = true ∨ ((q : Int) = r + 1)) : hasB (fP o r) q = true := by
 obtain ⟨e1, e2⟩ := plus_one (n := 3) hr (by omega)
 obtain ⟨_, _, b3⟩ := bit16_is ho (r := (r + 1).toNat) (by omega)
 unfold fP
 rw [e1, b3 q hq]
 rcases h with h | h
 ·rw [h]; rfl
 ·have : (r + 1).toNat = q := by omega
  rw [this]
  simp
theorem w_keeps {m : Hs} {seen off : Int} {nn i q : Nat} (hi : i < nn) (hq : q < 4) : ∀ (l : List (List Int)) (s : Bool × List Int), (∀ p ∈ l, p.length = nn ∧ ∀ x ∈ p, -1 ≤ x ∧ x < 3) → s.2.length = nn → O16 s.2 → hasB (s.2.getD i 0) q = true → hasB ((l.foldl (wStep fP m seen off) s).2.getD i 0) q = true
 | [], s, _, _, _, h => h
 | p :: l, s, hp, hs, ho, h => by
  obtain ⟨p1, p2⟩ := hp p (by simp)
  rw [List.foldl_cons]
  refine w_keeps hi hq l _ (fun y hy => hp y (by simp [hy])) ?_ ?_ ?_
  ·unfold wStep; split; exact (addTo_len ..).trans hs; exact hs
  ·unfold wStep
   split
   ·obtain ⟨e1, e2⟩ := addTo_same ho p2 p.length (Nat.le_refl _)
    rw [e1]; exact e2
   ·exact ho
  ·unfold wStep
   split
   ·obtain ⟨r, hr⟩ := get_some (l := p) (k := i) (by omega)
    have hgr : p.getD i 0 = r := by simp [List.getD, hr]
    rw [addTo_get fP _ _ (by omega), if_pos (by omega), hgr]
    exact fP_has (ho.at i) (p2 r (List.mem_of_getElem? hr)) hq (.inl h)
   ·exact h
theorem w_has {m : Hs} {seen off : Int} {nn i : Nat} {o : List Int} (hi : i < nn) (hag : agrB (airS m o) seen off = true) : ∀ (l : List (List Int)) (s : Bool × List Int), (∀ p ∈ l, p.length = nn ∧ ∀ x ∈ p, -1 ≤ x ∧ x < 3) → s.2.length = nn → O16 s.2 → o ∈ l → (l.foldl (wStep fP m seen off) s).1 = true ∧ hasB ((l.foldl (wStep fP m seen off) s).2.getD i 0) ((o.getD i 0 + 1).toNat : Int) = true
 | [], s, _, _, _, h => by cases h
 | p :: l, s, hp, hs, ho, h => by
  have hstep : O16 (wStep fP m seen off s p).2 ∧ (wStep fP m seen off s p).2.length = nn := by
   obtain ⟨p1, p2⟩ := hp p (by simp)
   unfold wStep
   split
   ·obtain ⟨e1, e2⟩ := addTo_same ho p2 p.length (Nat.le_refl _)
    refine ⟨by rw [e1]; exact e2, (addTo_len ..).trans hs⟩
   ·exact ⟨ho, hs⟩
  have hl : ∀ y ∈ l, y.length = nn ∧ ∀ x ∈ y, -1 ≤ x ∧ x < 3 := fun y hy => hp y (by simp [hy])
  rw [List.foldl_cons]
  by_cases e : o ∈ l
  ·exact w_has hi hag l _ hl hstep.2 hstep.1 e
  ·obtain rfl : o = p := by
    rcases List.mem_cons.1 h with h | h
    ·exact h
    ·exact absurd h e
   obtain ⟨p1, p2⟩ := hp o (by simp)
   obtain ⟨r, hr⟩ := get_some (l := o) (k := i) (by omega)
   have hgr : o.getD i 0 = r := by simp [List.getD, hr]
   have hr3 := p2 r (List.mem_of_getElem? hr)
   have h1 : (wStep fP m seen off s o).1 = true ∧ hasB ((wStep fP m seen off s o).2.getD i 0) ((o.getD i 0 + 1).toNat : Int) = true := by
    unfold wStep
    rw [if_pos hag]
    refine ⟨rfl, ?_⟩
    simp only
    rw [addTo_get fP _ _ (by omega), if_pos (by omega), hgr]
    exact fP_has (ho.at i) hr3 (by omega) (.inr (by omega))
   refine ⟨?_, w_keeps hi (by rw [hgr]; omega) l _ hl hstep.2 hstep.1 h1.2⟩
   have key : ∀ (l : List (List Int)) (s : Bool × List Int), s.1 = true → (l.foldl (wStep fP m seen off) s).1 = true := by
    intro l
    induction l with
    | nil => intro s h; exact h
    | cons a l ih =>
     intro s h
     rw [List.foldl_cons]
     refine ih _ ?_
     unfold wStep
     split
     ·rfl
     ·exact h
   exact key l _ h1.1
theorem path_mem {m : Hs} (ho : HOk m) {p : List Int} (h : pathB m p = true) : p ∈ allP m.rooms.length m.hours.toNat := by
 obtain ⟨h1, h2⟩ := path_is ho h
 have key : ∀ (n : Nat) (p : List Int), p.length = n → (∀ x ∈ p, -1 ≤ x ∧ x < m.rooms.length) → p ∈ allB m.rooms.length n := by
  intro n
  induction n with
  | zero => intro p h1 _; have := List.length_eq_zero_iff.1 h1; subst this; simp [allB]
  | succ n ih =>
   intro p h1 h2
   cases p with
   | nil => simp at h1
   | cons a p =>
    have ha := h2 a (by simp)
    rw [allB, List.mem_flatMap]
    refine ⟨(a + 1).toNat, List.mem_range.2 (by omega), List.mem_map.2 ⟨p, ih p (by simpa using h1) (fun x hx => h2 x (by simp [hx])), ?_⟩⟩
    congr 1
    omega
 rw [← allB_all]
 exact key _ p h1 h2
theorem bit_one {o : Int} {q : Nat} (ho : 0 ≤ o ∧ o < 16) (hq : q < 4) (h : hasB o q = true) : 1 ≤ o ∧ o ≤ 15 := by
 by_cases e : o = 0
 ·subst e
  have : q = 0 ∨ q = 1 ∨ q = 2 ∨ q = 3 := by omega
  rcases this with rfl | rfl | rfl | rfl <;> revert h <;> decide
 ·omega
theorem was_law {m : Hs} (ho : HOk m) {o : List Int} (hq : pathB m o = true) {seen off : Int} (hag : agrB (airS m o) seen off = true) : (wP m seen off).1 = true ∧ ∀ i, i < m.hours.toNat → (1 ≤ (wP m seen off).2.getD i 0 ∧ (wP m seen off).2.getD i 0 ≤ 15) ∧ (0 ≤ (wP m seen off).2.getD i 0 ∧ (wP m seen off).2.getD i 0 < 16) ∧ hasB ((wP m seen off).2.getD i 0) ((o.getD i 0 + 1).toNat : Int) = true := by
 have hr3 := ho.rooms
 have hh := ho.hours
 have hm := path_mem ho hq
 obtain ⟨q1, q2⟩ := path_is ho hq
 have hl : ∀ p ∈ allP m.rooms.length m.hours.toNat, p.length = m.hours.toNat ∧ ∀ x ∈ p, -1 ≤ x ∧ x < 3 := fun p hp => ⟨(allP_mem hp).1, fun x hx => by have := (allP_mem hp).2 x hx; omega⟩
 have h0 : O16 (List.replicate m.hours.toNat 0) := fun x hx => by have := (List.mem_replicate.1 hx).2; omega
 have h1 := fun i hi => w_has (m := m) (seen := seen) (off := off) (nn := m.hours.toNat) (i := i) (o := o) hi hag _ (false, List.replicate m.hours.toNat 0) hl (by simp) h0 hm
 have h2 := wAll_same m seen off (allP m.rooms.length m.hours.toNat) (false, List.replicate m.hours.toNat 0) (fun p hp => (hl p hp).2) h0
 have h3 : O16 (wP m seen off).2 := by
  unfold wP wAll
  rw [h2.1]
  exact h2.2
 refine ⟨(h1 0 (by omega)).1, fun i hi => ?_⟩
 obtain ⟨r, hr⟩ := get_some (l := o) (k := i) (by omega)
 have hgr : o.getD i 0 = r := by simp [List.getD, hr]
 have hrr := q2 r (List.mem_of_getElem? hr)
 have h4 := (h1 i hi).2
 exact ⟨bit_one (h3.at i) (q := (o.getD i 0 + 1).toNat) (by rw [hgr]; omega) h4, h3.at i, h4⟩
attribute [local irreducible] houseB pathB airS failsH hasB allP wAll fitsB brV
noncomputable def c19 : Itr
 | 21 => some (pureFn sp21S)
 | 22 => some (pureFn sp22)
 | 24 => some (flatFnD sp82)
 | 31 => some (pureFn sp31)
 | 60 => some (pureFn sp60)
 | 68 => some (pureFn sp68)
 | 84 => some (pureFn sp84)
 | 85 => some (pureFn sp85)
 | _ => none
theorem c19_sound (hT : TabK Tryz.prog) : Sound (dX c19) := dX_sound (fun f g h => by
 unfold c19 at h
 split at h
 ·cases h; exact F21S
 ·cases h; exact F22 hT
 ·cases h; exact F24D
 ·cases h; exact F31
 ·cases h; exact F60
 ·cases h; exact F68
 ·cases h; exact F84
 ·cases h; exact F85
 ·cases h)
theorem hc19 : CxR c19 := ⟨rfl, rfl, rfl, rfl, rfl, rfl, rfl, rfl⟩
set_option maxHeartbeats 16000000 in
theorem T19 (ra fa oa ha pa dv : AV) (m : Hs) (p : List Int) (g : List (List Int)) (x : Fk) (off by_ : Int) (v : HsI m ra fa oa ha) (qp : isSl pa (p.map intC.enc)) (q : LsI dv g) : ClR (dX c19) 19 [.agg [.int .i64 m.hours, ra, fa, oa, ha], pa, .agg [dv, .int .i64 x.what, .int .i64 x.num, .int .i64 x.hour], .int .i64 off, .int .i64 by_] emptyHp (isRet (.bool true)) := by
 have o1 := v.r.out
 have o2 := v.f.out
 have o3 := v.o.out
 have o4 := v.h.out
 have od := q.out
 have op := qp.out
 have lp := qp.len
 rw [List.length_map] at lp
 have k22 : ∀ h, Cl (dX c19) 22 [] h (.ret (.bool true) h none) := fun h => K22 rfl h
 have k21 := fun h => K21I (X := dX c19) rfl v h
 have k51 := fun h => C51 (c := c19) rfl dv g q h
 have n0 : ((0 : Int) != 0) = false := rfl
 have tt : (true && true) = true := rfl
 cases gs : shortB m with
 | false =>
  rw [gs] at k21
  clear v q qp gs
  refine ClR.walk (c := _) rfl Tryz.func19 rfl (by kernel_rfl) rfl isRet_fail ?_
  try simp only [entryEnv, Nat.reduceAdd, List.nil_append, List.cons_append, emptyHp]
  repeat' (first | refine goS ?_ | (apply U6; exact Z1; exact Z1; (focus (simp only [List.nil_append, List.append_nil]; first | exact k21 _ | exact k22 _)); simp only [pM, pN, rR, rP]) | refine go2 (fun hh => ?_) (fun hh => ?_) | fail)
  all_goals (simp only [resV_def (X := dX c19) Tryz.func19, Tryz.results19]; first | exact J5 | refine J6 ?_)
  all_goals rfl
 | true =>
  rw [gs] at k21
  cases gz : decide ((p.length : Int) > 7) with
  | true =>
   clear v q qp gs
   refine ClR.walk (c := _) rfl Tryz.func19 rfl (by kernel_rfl) rfl isRet_fail ?_
   try simp only [entryEnv, Nat.reduceAdd, List.nil_append, List.cons_append, emptyHp]
   repeat' (first | refine goS ?_ | (apply U6; exact Z1; exact Z1; (focus (simp only [List.nil_append, List.append_nil]; first | exact k21 _ | exact k22 _)); simp only [pM, pN, rR, rP]) | refine go2 (fun hh => ?_) (fun hh => ?_) | fail)
   all_goals (simp only [resV_def (X := dX c19) Tryz.func19, Tryz.results19]; first | exact J5 | refine J6 ?_)
   all_goals rfl
  | false =>
   cases gd : sizedL g with
   | false =>
    rw [gd] at k51
    clear v q qp gs gd
    refine ClR.walk (c := _) rfl Tryz.func19 rfl (by kernel_rfl) rfl isRet_fail ?_
    try simp only [entryEnv, Nat.reduceAdd, List.nil_append, List.cons_append, emptyHp]
    repeat' (first | refine goS ?_ | (apply U6; exact Z1; exact Z1; (focus (simp only [List.nil_append, List.append_nil]; first | exact k21 _ | exact k22 _ | exact k51 _)); simp only [pM, pN, rR, rP]) | refine go2 (fun hh => ?_) (fun hh => ?_) | fail)
    all_goals (simp only [resV_def (X := dX c19) Tryz.func19, Tryz.results19]; first | exact J5 | refine J6 ?_)
    all_goals rfl
   | true =>
    rw [gd] at k51
    have hA := v.short gs
    have hg := q.sized gd
    have hp : slV intC pa = some p := slV_mk qp (by simp only [decide_eq_false_iff_not] at gz; unfold maxL; omega)
    have k24 := fun h => K24p (X := dX c19) rfl hA h
    cases hb : houseB m with
    | false =>
     rw [hb] at k24
     clear v q qp gs gd hA hg hp hb
     refine ClR.walk (c := _) rfl Tryz.func19 rfl (by kernel_rfl) rfl isRet_fail ?_
     try simp only [entryEnv, Nat.reduceAdd, List.nil_append, List.cons_append, emptyHp]
     repeat' (first | refine goS ?_ | (apply U6; exact Z1; exact Z1; (focus (simp only [List.nil_append, List.append_nil]; first | exact k21 _ | exact k22 _ | exact k51 _ | exact k24 _)); simp only [pM, pN, rR, rP]) | refine go2 (fun hh => ?_) (fun hh => ?_) | fail)
     all_goals (simp only [resV_def (X := dX c19) Tryz.func19, Tryz.results19]; first | exact J5 | refine J6 ?_)
     all_goals rfl
    | true =>
     rw [hb] at k24
     have ho := house_ok hb
     have k62 := fun h => C62 (c := c19) hc19 rfl m ra fa oa ha pa p hA hp h
     cases hq : pathB m p with
     | false =>
      rw [hq] at k62
      clear v q qp gs gd hA hg hp hb ho hq
      refine ClR.walk (c := _) rfl Tryz.func19 rfl (by kernel_rfl) rfl isRet_fail ?_
      try simp only [entryEnv, Nat.reduceAdd, List.nil_append, List.cons_append, emptyHp]
      repeat' (first | refine goS ?_ | (apply U6; exact Z1; exact Z1; (focus (simp only [List.nil_append, List.append_nil]; first | exact k21 _ | exact k22 _ | exact k51 _ | exact k24 _ | exact k62 _)); simp only [pM, pN, rR, rP]) | refine go2 (fun hh => ?_) (fun hh => ?_) | fail)
      all_goals (simp only [resV_def (X := dX c19) Tryz.func19, Tryz.results19]; first | exact J5 | refine J6 ?_)
      all_goals rfl
     | true =>
      rw [hq] at k62
      have k66 := fun h => C66 (c := c19) hc19 rfl m x ra fa oa ha dv g hA hg h
      cases hs : sizedB m g x with
      | false =>
       rw [hs] at k66
       clear v q qp gs gd hA hg hp hb ho hq hs
       refine ClR.walk (c := _) rfl Tryz.func19 rfl (by kernel_rfl) rfl isRet_fail ?_
       try simp only [entryEnv, Nat.reduceAdd, List.nil_append, List.cons_append, emptyHp]
       repeat' (first | refine goS ?_ | (apply U6; exact Z1; exact Z1; (focus (simp only [List.nil_append, List.append_nil]; first | exact k21 _ | exact k22 _ | exact k51 _ | exact k24 _ | exact k62 _ | exact k66 _)); simp only [pM, pN, rR, rP]) | refine go2 (fun hh => ?_) (fun hh => ?_) | fail)
       all_goals (simp only [resV_def (X := dX c19) Tryz.func19, Tryz.results19]; first | exact J5 | refine J6 ?_)
       all_goals rfl
      | true =>
       rw [hs] at k66
       obtain ⟨s1, s2, s3⟩ := sized_is hs
       obtain ⟨nn, hnn, hnt, hn1, hn4, hol⟩ := ho_parts ho
       have k67 := fun h => C67 (c := c19) hc19 rfl m x ra fa oa ha dv g hA hg nn hnn (by omega) s2 (fun r hr => by have := s1 r hr; omega) h
       cases hf : fitsB m g with
       | false =>
        rw [hf] at k67
        clear v q qp gs gd hA hg hp hb ho hq hs s1 s2 s3 hnn hnt hn1 hn4 hol hf
        refine ClR.walk (c := _) rfl Tryz.func19 rfl (by kernel_rfl) rfl isRet_fail ?_
        try simp only [entryEnv, Nat.reduceAdd, List.nil_append, List.cons_append, emptyHp]
        repeat' (first | refine goS ?_ | (apply U6; exact Z1; exact Z1; (focus (simp only [List.nil_append, List.append_nil]; first | exact k21 _ | exact k22 _ | exact k51 _ | exact k24 _ | exact k62 _ | exact k66 _ | exact k67 _)); simp only [pM, pN, rR, rP]) | refine go2 (fun hh => ?_) (fun hh => ?_) | fail)
        all_goals (simp only [resV_def (X := dX c19) Tryz.func19, Tryz.results19]; first | exact J5 | refine J6 ?_)
        all_goals rfl
       | true =>
        rw [hf] at k67
        cases hy1 : decide (by_ < IntKind.i64.wrap (-off)) with
        | true =>
         clear v q qp gs gd hA hg hp hb ho hq hs s1 s2 s3 hnn hnt hn1 hn4 hol hf
         refine ClR.walk (c := _) rfl Tryz.func19 rfl (by kernel_rfl) rfl isRet_fail ?_
         try simp only [entryEnv, Nat.reduceAdd, List.nil_append, List.cons_append, emptyHp]
         repeat' (first | refine goS ?_ | (apply U6; exact Z1; exact Z1; (focus (simp only [List.nil_append, List.append_nil]; first | exact k21 _ | exact k22 _ | exact k51 _ | exact k24 _ | exact k62 _ | exact k66 _ | exact k67 _)); simp only [pM, pN, rR, rP]) | refine go2 (fun hh => ?_) (fun hh => ?_) | fail)
         all_goals (simp only [resV_def (X := dX c19) Tryz.func19, Tryz.results19]; first | exact J5 | refine J6 ?_)
         all_goals rfl
        | false =>
         cases hy2 : decide (by_ > off) with
         | true =>
          clear v q qp gs gd hA hg hp hb ho hq hs s1 s2 s3 hnn hnt hn1 hn4 hol hf
          refine ClR.walk (c := _) rfl Tryz.func19 rfl (by kernel_rfl) rfl isRet_fail ?_
          try simp only [entryEnv, Nat.reduceAdd, List.nil_append, List.cons_append, emptyHp]
          repeat' (first | refine goS ?_ | (apply U6; exact Z1; exact Z1; (focus (simp only [List.nil_append, List.append_nil]; first | exact k21 _ | exact k22 _ | exact k51 _ | exact k24 _ | exact k62 _ | exact k66 _ | exact k67 _)); simp only [pM, pN, rR, rP]) | refine go2 (fun hh => ?_) (fun hh => ?_) | fail)
          all_goals (simp only [resV_def (X := dX c19) Tryz.func19, Tryz.results19]; first | exact J5 | refine J6 ?_)
          all_goals rfl
         | false =>
          have hss := sized_shape ho g x
          rw [hs] at hss
          replace hss := hss.symm
          simp only [Bool.and_eq_true] at hss
          obtain ⟨t, htt0⟩ := Option.isSome_iff_exists.1 hss.2
          obtain ⟨htm, htx⟩ := find_some htt0
          have e1 : breV m p = .tuple [.agg [.int .i64 (airS m p).1, .int .i64 (airS m p).2], .int .i64 0] := by unfold breV; rw [hb, hq]; rfl
          have e2 : runV m g x = .tuple [slN (rowsE (runG m t g)), .int .i64 0] := by unfold runV isTruth runG; rw [hf, hb, Bool.true_and, hss.1, htt0]; rfl
          have k60 := fun h => K60 (X := dX c19) rfl hA hp h
          have k68 := fun h => K68 (X := dX c19) rfl hA hg x h
          rw [e1] at k60
          rw [e2] at k68
          have hgo := runG_ok ho t hf s2
          have hr3 := ho.rooms
          have hli := rows_lis (g := runG m t g) (by rw [hgo.len]; unfold maxL; omega) fun l hl => by rw [hgo.row l hl]; unfold maxL; omega
          have or := lis_out hli
          have k70 := fun h => C70 (c := c19) rfl m ra fa oa ha _ _ hA ho hli hgo h
          obtain ⟨hbr1, hbr2, hbr3⟩ := brV_is ho hq hgo
          have k71 := fun h => C71 (c := c19) rfl pa _ p _ h (pth_of hp) hli _ hbr1
          obtain ⟨t1, t2⟩ := truth_in ho hq htm hf s2 s1
          generalize hbv : brV (runG m t g) p = bv at *
          obtain ⟨cy, hcy⟩ : ∃ cy, cy = maxV (-200) (minV 200 by_) := ⟨_, rfl⟩
          have hcr : -200 ≤ cy ∧ cy ≤ 200 := by rw [hcy, maxV_is, minV_is]; omega
          have hsw : IntKind.i64.wrap (bv + maxV (-200) (minV 200 by_)) = bv + cy := by
           rw [← hcy]
           have := w64_small (n := bv + cy) (by omega) (by omega)
           unfold w64 at this
           exact this
          have k32 := fun h => C32 (c := c19) rfl (bv + cy) off h
          cases hmk : (inB (bv + cy) 0 2000 && inB off 0 100) with
          | false =>
           rw [hmk] at k32
           clear v q qp gs gd hA hg hp hb ho hq hs s1 s2 s3 hnn hnt hn1 hn4 hol hf hss htt0 htm htx e1 e2 hgo hr3 hli hbr1 hbr2 hbr3 t1 t2 hbv hcy hcr hmk
           generalize slN (rowsE (runG m t g)) = rv at *
           generalize (airS m p).1 = lo at *
           generalize (airS m p).2 = hi at *
           refine ClR.walk (c := _) rfl Tryz.func19 rfl (by kernel_rfl) rfl isRet_fail ?_
           try simp only [entryEnv, Nat.reduceAdd, List.nil_append, List.cons_append, emptyHp]
           repeat' (first | refine goS ?_ | (apply U6; exact Z1; exact Z1; (focus (simp only [List.nil_append, List.append_nil]; first | exact k21 _ | exact k22 _ | exact k51 _ | exact k24 _ | exact k62 _ | exact k66 _ | exact k67 _ | exact k68 _ | exact k60 _ | exact k70 _ | exact k71 _ | exact k32 _)); simp only [pM, pN, rR, rP]) | refine go2 (fun hh => ?_) (fun hh => ?_) | fail)
           all_goals (simp only [resV_def (X := dX c19) Tryz.func19, Tryz.results19]; first | exact J5 | refine J6 ?_)
           all_goals rfl
          | true =>
           rw [hmk] at k32
           have hmk2 := hmk
           rw [Bool.and_eq_true, inB_iff, inB_iff] at hmk2
           have hoff : IntKind.i64.wrap (-off) = -off := by
            have := w64_small (n := -off) (by omega) (by omega)
            unfold w64 at this
            exact this
           have hby : -off ≤ by_ ∧ by_ ≤ off := by
            rw [hoff] at hy1
            simp only [decide_eq_false_iff_not] at hy1 hy2
            omega
           have hcb : cy = by_ := by rw [hcy, maxV_is, minV_is]; omega
           have w1 : IntKind.i64.wrap (bv + cy + off) = bv + cy + off := by
            have := w64_small (n := bv + cy + off) (by omega) (by omega)
            unfold w64 at this
            exact this
           have w2 : IntKind.i64.wrap (bv + cy - off) = bv + cy - off := by
            have := w64_small (n := bv + cy - off) (by omega) (by omega)
            unfold w64 at this
            exact this
           have hag : agrB (airS m p) (bv + cy) off = true := by
            unfold agrB w64
            rw [w1, w2, Bool.and_eq_true, decide_eq_true_eq, decide_eq_true_eq]
            omega
           have d1 : decide ((airS m p).1 > bv + cy + off) = false := by simp only [decide_eq_false_iff_not]; omega
           have d2 : decide ((airS m p).2 < bv + cy - off) = false := by simp only [decide_eq_false_iff_not]; omega
           obtain ⟨wm, wl⟩ := was_law ho hq hag
           have hwlen : (wP m (bv + cy) off).2.length = nn := by unfold wP; rw [wAll_len]; exact hnt
           have hsl := ints_sl (wP m (bv + cy) off).2 (by rw [hwlen]; unfold maxL; omega)
           have lw := sl_len hsl
           have ow := sl_out hsl
           rw [hwlen] at lw
           have e3 : whereV m (bv + cy) off = .tuple [slN (intsE (wP m (bv + cy) off).2), .int .i64 0] := by unfold whereV; rw [hb, Bool.true_and, hmk, wm]; rfl
           have k31 := fun h => K31 (X := dX c19) rfl hA (bv + cy) off h
           rw [e3] at k31
           have hnen : ((nn : Int) != (nn : Int)) = false := by simp
           have hplen := (path_is ho hq).1
           have hprg := (path_is ho hq).2
           rw [hnt] at hplen wl
           rw [hnn] at k21 k24 k62 k66 k67 k60 k68 k70 k31 ⊢
           have H75 := Lib.hid (fun (s : Int) (n : Nat) (hs : 0 ≤ s ∧ s < 16) (hn : n < 6) h => C75 hc19 s n hs hn h)
           have HWL := Lib.hid wl
           have HSL := Lib.hid hsl
           have HP := Lib.hid hp
           have HPL := Lib.hid hplen
           have HPR := Lib.hid hprg
           have HN := Lib.hid hn4
           have HWN := Lib.hid hwlen
           have HR3 := Lib.hid hr3
           clear v q qp gs gd hA hg hp hb ho hq hs s1 s2 s3 hnn hnt hn1 hn4 hol hf hss htt0 htm htx e1 e2 hgo hr3 hli hbr1 hbr2 hbr3 t1 t2 hbv hcy hcr hmk hmk2 hoff hby hcb hag wm wl hwlen hsl e3 hplen hprg
           generalize slN (rowsE (runG m t g)) = rv at *
           generalize (airS m p).1 = lo at *
           generalize (airS m p).2 = hi at *
           generalize hst : (wP m (bv + cy) off).2 = out at *
           generalize hwv : slN (intsE out) = wv at *
           refine ClR.walk (c := _) rfl Tryz.func19 rfl (by kernel_rfl) rfl isRet_fail ?_
           try simp only [entryEnv, Nat.reduceAdd, List.nil_append, List.cons_append, emptyHp]
           repeat' (first | refine goS ?_ | (apply U6; exact Z1; exact Z1; (focus (simp only [List.nil_append, List.append_nil]; first | exact k21 _ | exact k22 _ | exact k51 _ | exact k24 _ | exact k62 _ | exact k66 _ | exact k67 _ | exact k68 _ | exact k60 _ | exact k70 _ | exact k71 _ | exact k32 _ | exact k31 _)); simp only [pM, pN, rR, rP]) | refine go2 (fun hh => ?_) (fun hh => ?_) | fail)
           refine W.loopH (nn) [1, 16] [] (fun k e lm => e.get 18 = some (.int .i64 ↑k)) ?_ ?_
           ·first | exact Z2 | rfl | assumption | (simp [go_sem, *]; done)
           intro k e lm hk0 hce hcl hinv
           simp only [keepE, and_true] at hce
           obtain ⟨c1, c16⟩ := hce
           simp only [go_sem, *, Nat.reduceLT, Int.reduceEq, Int.reduceBEq, Int.reduceLE, Int.reduceLT, Nat.reduceAdd, Nat.reduceBEq, Nat.reduceEqDiff, reduceIte, Nat.reduceLeDiff, Nat.reduceMul, Nat.reduceSub, reduceCtorEq] at c1 c16
           clear hcl
           have h18 := hinv
           clear hinv
           by_cases hlt : k < nn
           ·have hd0 : decide ((k : Int) < ((nn : Nat) : Int)) = true := by first | (simpa using hlt; done) | (simp only [decide_eq_true_eq]; omega)
            have hv_0 := wrap_succ hlt (by have := HN.out; unfold maxL; omega)
            obtain ⟨⟨z1, z2⟩, z3, z4⟩ := HWL.out k hlt
            obtain ⟨r, hr⟩ := get_some (l := p) (k := k) (by have := HPL.out; omega)
            have hgr : p.getD k 0 = r := by simp [List.getD, hr]
            have hrr := HPR.out r (List.mem_of_getElem? hr)
            obtain ⟨oo, hoo⟩ := get_some (l := out) (k := k) (by have := HWN.out; omega)
            have hgo : out.getD k 0 = oo := by simp [List.getD, hoo]
            rw [hgo] at z1 z2 z3 z4
            rw [hgr] at z4
            have hix1 := fun H => ints_idx HSL.out hoo H
            have hix2 := fun H => ints_idx HP.out hr H
            have f1 : decide (oo < 1) = false := by simp only [decide_eq_false_iff_not]; omega
            have f2 : decide (oo > 15) = false := by simp only [decide_eq_false_iff_not]; omega
            have k75 := H75.out oo (r + 1).toNat z3 (by have := HR3.out; omega)
            rw [z4] at k75
            have hw : IntKind.i64.wrap (r + 1) = (((r + 1).toNat : Nat) : Int) := (plus_one (n := 3) (by have := HR3.out; omega) (by omega)).1
            have HLT0 := Lib.hid hlt
            clear z1 z2 z3 z4 hr hgr hrr hoo hgo hlt
            generalize (r + 1).toNat = rn at *
            repeat' (first | (apply W.drawQ (id := 16) (l1 := [0, 1, 2, 3, 4, 5, 6, 7, 8, 9, 10, 11, 12, 13, 14, 15, 16, 17, 18, 19, 20, 21, 22, 23, 24]) (l2 := []); kernel_rfl; kernel_rfl; kernel_rfl; exact Z4) | refine go1 ?_ | (apply U6; exact Z1; exact Z1; (focus (simp only [List.nil_append, List.append_nil]; first | exact k75 _)); simp only [pM, pN, rR, rP]) | refine go2 (fun hh => ?_) (fun hh => ?_) | fail)
            all_goals refine contH_mk (by first | assumption | exact HLT0.out | exact HLT0.out) (by simp only [keepE, and_true, and_self, go_sem, *, Nat.reduceLT, Int.reduceEq, Int.reduceBEq, Int.reduceLE, Int.reduceLT, Nat.reduceAdd, Nat.reduceBEq, Nat.reduceEqDiff, reduceIte, Nat.reduceLeDiff, Nat.reduceMul, Nat.reduceSub, reduceCtorEq]) (by simp only [keepL, and_true, and_self, go_sem, *, Nat.reduceLT, Int.reduceEq, Int.reduceBEq, Int.reduceLE, Int.reduceLT, Nat.reduceAdd, Nat.reduceBEq, Nat.reduceEqDiff, reduceIte, Nat.reduceLeDiff, Nat.reduceMul, Nat.reduceSub, reduceCtorEq]) ?_
            all_goals first | exact Z2 | skip
           ·have hd0 : decide ((k : Int) < ((nn : Nat) : Int)) = false := by first | (simpa using hlt; done) | (simp only [decide_eq_false_iff_not]; omega)
            obtain rfl : k = nn := by omega
            repeat' (first | refine goS ?_ | (apply U6; exact Z1; exact Z1; (focus (simp only [List.nil_append, List.append_nil]; first | exact k22 _)); simp only [pM, pN, rR, rP]) | refine go2 (fun hh => ?_) (fun hh => ?_) | fail)
            all_goals (simp only [resV_def (X := dX c19) Tryz.func19, Tryz.results19]; first | exact J5 | refine J6 ?_)
            all_goals rfl
end Go.AM
