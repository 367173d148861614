/-
  A part of the proof: contracts of functions.
-/
import Derived.Test.YtgihdicidaipmaaGreatDoorRAW
import Derived.Test.YtgihdicidaipmaaGreatDoorRAV
import Derived.Test.YtgihdicidaipmaaGreatDoorRBD
import Derived.Test.YtgihdicidaipmaaGreatDoorRBF
set_option linter.unusedSectionVars false
set_option linter.unusedVariables false
set_option linter.unusedSimpArgs false
set_option maxRecDepth 100000
namespace Go.AM
open Go Go.Proofs
variable [Keep]
attribute [local irreducible] W WO WO1 WD WQ WT thenQ blockQ endR isRet retK Cl ClR
attribute [local irreducible] natsE bestN nodeW okW leadF clearB goneB bfrB shortB
noncomputable def c9 : Itr
 | 21 => some (pureFn sp21)
 | 48 => some (pureFn sp48)
 | 49 => some (pureFn sp49)
 | 50 => some (newQ sp50)
 | 51 => some (pureFn sp51)
 | 52 => some (pureFn sp52)
 | _ => none
theorem c9_sound : Sound (dX c9) := dX_sound (fun f g h => by
 unfold c9 at h
 split at h
 ·cases h; exact F21
 ·cases h; exact F48
 ·cases h; exact F49
 ·cases h; exact F50
 ·cases h; exact f51
 ·cases h; exact F52
 ·cases h)
theorem K21 {X : Ctx} (hX : X.intr 21 = some (pureFn sp21)) (h : Heap) : Cl X 21 [] h (.ret (.bool true) h none) := Cl.intr hX rfl
set_option maxHeartbeats 8000000 in
theorem T9 (sa ga : AV) (b : Bk) (l : List Int) (v : MdsI sa b.moulds) (q : isSl ga (l.map intC.enc)) : ClR (dX c9) 9 [.agg [.int .i64 b.miss, .int .i64 b.ghost, sa], ga] emptyHp (isRet (.bool true)) := by
 have os := v.out
 have og := q.out
 have lg := q.len
 rw [List.length_map] at lg
 have ls := v.len
 have k21 : ∀ h, Cl (dX c9) 21 [] h (.ret (.bool true) h none) := fun h => K21 rfl h
 have k20 := fun h => C20I (c := c9) rfl b sa v h
 have q0 : ((0 : Int) == 0) = true := rfl
 have q7 : ((7 : Int) == 7) = true := rfl
 have n0 : ((0 : Int) != 0) = false := rfl
 have n7 : ((7 : Int) != 0) = true := rfl
 have n77 : ((7 : Int) != 7) = false := rfl
 cases gs : shortB b with
 | false =>
  rw [gs] at k20
  clear v q gs
  refine wJ rfl Tryz.func9 rfl isRet_fail ?_
  try simp only [entryEnv, Nat.reduceAdd, nJ, cJ, emptyHp]
  repeat' (first | (refine WO1.gund rfl rfl ?_ ?_; exact Z2; simp only [pM, pN, rR, rP]) | refine go1 ?_ | (apply U6; exact Z1; exact Z1; (focus (first | exact k20 _ | exact k21 _)); simp only [pM, pN, rR, rP]) | (refine go2 ?_ ?_ <;> intro hh) | fail)
  all_goals (simp only [rV Tryz.func9, Tryz.results9]; first | exact J5 | refine J6 ?_)
 | true =>
  have hb := short_bk v gs
  rw [gs] at k20
  cases h8 : decide ((l.length : Int) > 8) with
  | true =>
   clear v q gs hb
   refine wJ rfl Tryz.func9 rfl isRet_fail ?_
   try simp only [entryEnv, Nat.reduceAdd, nJ, cJ, emptyHp]
   repeat' (first | (refine WO1.gund rfl rfl ?_ ?_; exact Z2; simp only [pM, pN, rR, rP]) | refine go1 ?_ | (apply U6; exact Z1; exact Z1; (focus (first | exact k20 _ | exact k21 _)); simp only [pM, pN, rR, rP]) | (refine go2 ?_ ?_ <;> intro hh) | fail)
   all_goals (simp only [rV Tryz.func9, Tryz.results9]; first | exact J5 | refine J6 ?_)
  | false =>
   have hga : slV intC ga = some l := slV_mk q (by simp only [decide_eq_false_iff_not] at h8; unfold maxL; omega)
   have k48 := fun h => K48 (X := dX c9) rfl hb h
   cases hbk : bookB b with
   | false =>
    rw [hbk] at k48
    clear v q gs hb hga hbk
    refine wJ rfl Tryz.func9 rfl isRet_fail ?_
    try simp only [entryEnv, Nat.reduceAdd, nJ, cJ, emptyHp]
    repeat' (first | (refine WO1.gund rfl rfl ?_ ?_; exact Z2; simp only [pM, pN, rR, rP]) | refine go1 ?_ | (apply U6; exact Z1; exact Z1; (focus (first | exact k20 _ | exact k21 _ | exact k48 _)); simp only [pM, pN, rR, rP]) | (refine go2 ?_ ?_ <;> intro hh) | fail)
    all_goals (simp only [rV Tryz.func9, Tryz.results9]; first | exact J5 | refine J6 ?_)
   | true =>
    rw [hbk] at k48
    have k49 := fun h => K49 (X := dX c9) rfl hb hga h
    cases hgo : goneB b.moulds.length l with
    | false =>
     rw [hgo] at k49
     clear v q gs hb hga hbk hgo
     refine wJ rfl Tryz.func9 rfl isRet_fail ?_
     try simp only [entryEnv, Nat.reduceAdd, nJ, cJ, emptyHp]
     repeat' (first | (refine WO1.gund rfl rfl ?_ ?_; exact Z2; simp only [pM, pN, rR, rP]) | refine go1 ?_ | (apply U6; exact Z1; exact Z1; (focus (first | exact k20 _ | exact k21 _ | exact k48 _ | exact k49 _)); simp only [pM, pN, rR, rP]) | (refine go2 ?_ ?_ <;> intro hh) | fail)
     all_goals (simp only [rV Tryz.func9, Tryz.results9]; first | exact J5 | refine J6 ?_)
    | true =>
     rw [hgo] at k49
     obtain ⟨sa', e, hm⟩ := bk_is hb
     have e := AV.agg.inj e
     simp only [List.cons.injEq, and_true, true_and] at e
     subst e
     have k50 := fun h => K50 (X := dX c9) rfl hb h
     have k51 := fun h => K51 (X := dX c9) rfl hb hga h
     cases had : allDays b.moulds with
     | false =>
      have e1 : withV b = .tuple [.nilslice, .int .i64 7] := by unfold withV; rw [hbk, had]; rfl
      have e2 : clearV b l = .tuple [.bool false, .int .i64 7] := by unfold clearV; rw [hbk, hgo, had]; rfl
      rw [e1] at k50
      rw [e2] at k51
      clear v q gs hb hga hbk hgo hm e1 e2 had
      refine wJ rfl Tryz.func9 rfl isRet_fail ?_
      try simp only [entryEnv, Nat.reduceAdd, nJ, cJ, emptyHp]
      repeat' (first | (refine WO1.gund rfl rfl ?_ ?_; exact Z2; simp only [pM, pN, rR, rP]) | refine go1 ?_ | (apply U6; exact Z1; exact Z1; (focus (first | exact k20 _ | exact k21 _ | exact k48 _ | exact k49 _ | exact k50 _ | exact k51 _)); simp only [pM, pN, rR, rP]) | (refine go2 ?_ ?_ <;> intro hh) | fail)
      all_goals (simp only [rV Tryz.func9, Tryz.results9]; first | exact J5 | refine J6 ?_)
     | true =>
      obtain ⟨g, eg, g1, g2, g3, g4⟩ := best_law hbk hm
      have e1 : withV b = .tuple [slN (natsE g), .int .i64 0] := by unfold withV; rw [hbk, had, eg]; rfl
      have e2 : clearV b l = .tuple [.bool (clearB (leadF b) l b.moulds.length), .int .i64 0] := by unfold clearV; rw [hbk, hgo, had]; rfl
      have hgs : slV intC (slN (natsE g)) = some (intsN g) := nats_sl (by have := hm.max; omega)
      have e3 : clearV b (intsN g) = .tuple [.bool true, .int .i64 0] := by unfold clearV; rw [hbk, g1, had, okW_is, g3]; rfl
      have k49g := fun h => K49 (X := dX c9) rfl hb hgs h
      have k51g := fun h => K51 (X := dX c9) rfl hb hgs h
      have k52 := fun h => K52 (X := dX c9) rfl hga hgs h
      have lo := sl_out hgs
      have ll := sl_len hgs
      have lc := (slV_is hgs).1.cells
      have lt := (slV_is hgs).1.tup
      simp only [AV.cells] at lc
      simp only [isTuple] at lt
      have eln : (intsN g).length = g.length := by unfold intsN; rw [List.length_map]
      rw [eln] at ll
      rw [g1] at k49g
      rw [e1] at k50
      rw [e2] at k51
      rw [e3] at k51g
      have hgl : decide ((g.length : Int) > (b.moulds.length : Int)) = false := by simp only [decide_eq_false_iff_not]; omega
      have hor := g4 l hgo
      clear v q gs hb hga hbk hgo hm e1 e2 e3 had hgs g1 g2 g3 g4 eg eln
      generalize slN (natsE g) = lv at *
      cases hcl : clearB (leadF b) l b.moulds.length with
      | false =>
       rw [hcl] at k51
       clear hor hcl
       refine wJ rfl Tryz.func9 rfl isRet_fail ?_
       try simp only [entryEnv, Nat.reduceAdd, nJ, cJ, emptyHp]
       repeat' (first | (refine WO1.gund rfl rfl ?_ ?_; exact Z2; simp only [pM, pN, rR, rP]) | refine go1 ?_ | (apply U6; exact Z1; exact Z1; (focus (first | exact k20 _ | exact k21 _ | exact k48 _ | exact k49 _ | exact k49g _ | exact k50 _ | exact k51 _ | exact k51g _)); simp only [pM, pN, rR, rP]) | (refine go2 ?_ ?_ <;> intro hh) | fail)
       all_goals (simp only [rV Tryz.func9, Tryz.results9]; first | exact J5 | refine J6 ?_)
      | true =>
       rw [hcl] at k51
       rcases hor hcl with h1 | ⟨h1, h2⟩
       ·have e1 : decide ((l.length : Int) > (g.length : Int)) = true := by simp only [decide_eq_true_eq]; omega
        clear hor hcl h1
        refine wJ rfl Tryz.func9 rfl isRet_fail ?_
        try simp only [entryEnv, Nat.reduceAdd, nJ, cJ, emptyHp]
        repeat' (first | (refine WO1.gund rfl rfl ?_ ?_; exact Z2; simp only [pM, pN, rR, rP]) | refine go1 ?_ | (apply U6; exact Z1; exact Z1; (focus (first | exact k20 _ | exact k21 _ | exact k48 _ | exact k49 _ | exact k49g _ | exact k50 _ | exact k51 _ | exact k51g _)); simp only [pM, pN, rR, rP]) | (refine go2 ?_ ?_ <;> intro hh) | fail)
        all_goals (simp only [rV Tryz.func9, Tryz.results9]; first | exact J5 | refine J6 ?_)
       ·have e1 : decide ((l.length : Int) > (g.length : Int)) = false := by simp only [decide_eq_false_iff_not]; omega
        have e2 : ((l.length : Int) == (g.length : Int)) = true := by rw [h1]; simp
        rw [h2] at k52
        clear hor hcl h1 h2
        refine wJ rfl Tryz.func9 rfl isRet_fail ?_
        try simp only [entryEnv, Nat.reduceAdd, nJ, cJ, emptyHp]
        repeat' (first | (refine WO1.gund rfl rfl ?_ ?_; exact Z2; simp only [pM, pN, rR, rP]) | refine go1 ?_ | (apply U6; exact Z1; exact Z1; (focus (first | exact k20 _ | exact k21 _ | exact k48 _ | exact k49 _ | exact k49g _ | exact k50 _ | exact k51 _ | exact k51g _ | exact k52 _)); simp only [pM, pN, rR, rP]) | (refine go2 ?_ ?_ <;> intro hh) | fail)
        all_goals (simp only [rV Tryz.func9, Tryz.results9]; first | exact J5 | refine J6 ?_)
end Go.AM
