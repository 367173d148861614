/-
  A part of the proof: contracts of functions.
-/
import Derived.Test.YtkpbdjpekjdhcaaGreatDoorRBP
import Derived.Test.YtkpbdjpekjdhcaaGreatDoorRAU
import Derived.Test.YtkpbdjpekjdhcaaGreatDoorRBB
set_option linter.unusedSectionVars false
set_option linter.unusedVariables false
set_option linter.unusedSimpArgs false
set_option maxRecDepth 100000
namespace Go.AM
open Go Go.Proofs
variable [Keep]
attribute [local irreducible] W WO WO1 WD WQ WT thenQ blockQ endR isRet retK Cl ClR
open Go.TX (Rm Fa Ha Hs)
theorem dn_eq (a b c d : Int) : binV Tryz.prog .eql 84 false (.agg [.int .i64 a, .int .i64 b, .int .i64 c, .int .i64 d]) (.agg [.int .i64 a, .int .i64 b, .int .i64 c, .int .i64 d]) = some (.bool true) := by
 have hst : Tryz.prog.stoodInHeld 84 = false := by kernel_rfl
 have hst2 : Tryz.prog.stoodInHeld 52 = false := by kernel_rfl
 have l50 : lay Tryz.prog 50 = some (false, 1) := by kernel_rfl
 have l52 : lay Tryz.prog 52 = some (true, 3) := by kernel_rfl
 have e3 : ∀ x y : Int, eqT Tryz.prog 6 3 (.int .i64 x) (.int .i64 y) = some (x == y) := fun x y => by rw [eqT.eq_def]; simp only [Tryz.underlying3, if_true]
 have e50 : ∀ x y : Int, eqT Tryz.prog 6 50 (.int .i64 x) (.int .i64 y) = some (x == y) := fun x y => by rw [eqT.eq_def]; simp only [Tryz.underlying50, if_true]
 have e37 : ∀ x y : Int, eqT Tryz.prog 7 3 (.int .i64 x) (.int .i64 y) = some (x == y) := fun x y => by rw [eqT.eq_def]; simp only [Tryz.underlying3, if_true]
 have e52 : eqT Tryz.prog 7 52 (.agg [.int .i64 b, .int .i64 c, .int .i64 d]) (.agg [.int .i64 b, .int .i64 c, .int .i64 d]) = some true := by
  rw [eqT.eq_def]
  simp only [Tryz.underlying52, hst2, Bool.false_eq_true, if_false]
  generalize eqT Tryz.prog 6 = f at *
  simp [eqFields, readT, readAt, l50, ty_lay3, e3, e50]
 have h : eqT Tryz.prog 8 84 (.agg [.int .i64 a, .int .i64 b, .int .i64 c, .int .i64 d]) (.agg [.int .i64 a, .int .i64 b, .int .i64 c, .int .i64 d]) = some true := by
  rw [eqT.eq_def]
  simp only [Tryz.underlying84, hst, Bool.false_eq_true, if_false]
  generalize eqT Tryz.prog 7 = f at *
  simp [eqFields, readT, readAt, l52, ty_lay3, e37, e52]
 have hgd : Tryz.prog.eqGuardType Tryz.prog.depth 84 = false := by kernel_rfl
 simp only [binV, eqOp, eqV, eqDepth, h, hgd, Bool.false_eq_true, if_false]
attribute [local irreducible] houseB pathB airS failsH rosB rosR stafB keptR danL
noncomputable def c11 : Itr
 | 21 => some (pureFn sp21S)
 | 22 => some (pureFn sp22)
 | 24 => some (flatFnD sp82)
 | 52 => some (pureFn sp52)
 | 53 => some (pureFn sp53)
 | 55 => some (pureFn sp55)
 | 84 => some (pureFn sp84)
 | 85 => some (pureFn sp85)
 | _ => none
theorem c11_sound (hT : TabK Tryz.prog) : Sound (dX c11) := dX_sound (fun f g h => by
 unfold c11 at h
 split at h
 ·cases h; exact F21S
 ·cases h; exact F22 hT
 ·cases h; exact F24D
 ·cases h; exact F52
 ·cases h; exact F53
 ·cases h; exact F55
 ·cases h; exact F84
 ·cases h; exact F85
 ·cases h)
theorem hc11 : CxR c11 := ⟨rfl, rfl, rfl, rfl, rfl, rfl, rfl, rfl⟩
set_option maxHeartbeats 16000000 in
theorem T11 (ra fa oa ha dv : AV) (m : Hs) (g : List (List Int)) (v : HsI m ra fa oa ha) (q : LsI dv g) : ClR (dX c11) 11 [.agg [.int .i64 m.hours, ra, fa, oa, ha], dv] emptyHp (isRet (.bool true)) := by
 have o1 := v.r.out
 have o2 := v.f.out
 have o3 := v.o.out
 have o4 := v.h.out
 have od := q.out
 have k22 : ∀ h, Cl (dX c11) 22 [] h (.ret (.bool true) h none) := fun h => K22 rfl h
 have k21 := fun h => K21I (X := dX c11) rfl v h
 have k51 := fun h => C51 (c := c11) rfl dv g q h
 have q0 : ((0 : Int) == 0) = true := rfl
 have q2 : ((2 : Int) == 2) = true := rfl
 have q5 : ((5 : Int) == 5) = true := rfl
 have n0 : ((0 : Int) != 0) = false := rfl
 have tt : (true && true) = true := rfl
 have hde := dn_eq
 have hbn := bool_ne
 cases gs : shortB m with
 | false =>
  rw [gs] at k21
  clear v q gs
  refine ClR.walk (c := _) rfl Tryz.func11 rfl (by kernel_rfl) rfl isRet_fail ?_
  try simp only [entryEnv, Nat.reduceAdd, List.nil_append, List.cons_append, emptyHp]
  repeat' (first | refine goS ?_ | (apply U6; exact Z1; exact Z1; (focus (simp only [List.nil_append, List.append_nil]; first | exact k21 _ | exact k22 _)); simp only [pM, pN, rR, rP]) | refine go2 (fun hh => ?_) (fun hh => ?_) | fail)
  all_goals (simp only [resV_def (X := dX c11) Tryz.func11, Tryz.results11]; first | exact J5 | refine J6 ?_)
  all_goals rfl
 | true =>
  rw [gs] at k21
  cases gl : sizedL g with
  | false =>
   rw [gl] at k51
   clear v q gs gl
   refine ClR.walk (c := _) rfl Tryz.func11 rfl (by kernel_rfl) rfl isRet_fail ?_
   try simp only [entryEnv, Nat.reduceAdd, List.nil_append, List.cons_append, emptyHp]
   repeat' (first | refine goS ?_ | (apply U6; exact Z1; exact Z1; (focus (simp only [List.nil_append, List.append_nil]; first | exact k21 _ | exact k22 _ | exact k51 _)); simp only [pM, pN, rR, rP]) | refine go2 (fun hh => ?_) (fun hh => ?_) | fail)
   all_goals (simp only [resV_def (X := dX c11) Tryz.func11, Tryz.results11]; first | exact J5 | refine J6 ?_)
   all_goals rfl
  | true =>
   rw [gl] at k51
   have hA := v.short gs
   have hg := q.sized gl
   have k24 := fun h => K24p (X := dX c11) rfl hA h
   have k52 := fun h => K52 (X := dX c11) rfl hA hg h
   have k53 := fun h => K53 (X := dX c11) rfl hA hg h
   cases hb : houseB m with
   | false =>
    have e1 : stafV m g = .tuple [.bool false, .int .i64 2] := by unfold stafV; rw [hb]; rfl
    have e2 : danV m g = .tuple [.agg [.int .i64 0, .int .i64 0, .int .i64 0, .int .i64 0], .int .i64 2] := by unfold danV danE; rw [hb]; rfl
    rw [hb] at k24
    rw [e1] at k52
    rw [e2] at k53
    clear v q gs gl hA hg hb e1 e2
    refine ClR.walk (c := _) rfl Tryz.func11 rfl (by kernel_rfl) rfl isRet_fail ?_
    try simp only [entryEnv, Nat.reduceAdd, List.nil_append, List.cons_append, emptyHp]
    repeat' (first | refine goS ?_ | (apply U6; exact Z1; exact Z1; (focus (simp only [List.nil_append, List.append_nil]; first | exact k21 _ | exact k22 _ | exact k51 _ | exact k24 _ | exact k52 _ | exact k53 _)); simp only [pM, pN, rR, rP]) | refine go2 (fun hh => ?_) (fun hh => ?_) | fail)
    all_goals (simp only [resV_def (X := dX c11) Tryz.func11, Tryz.results11]; first | exact J5 | refine J6 ?_)
    all_goals rfl
   | true =>
    rw [hb] at k24
    have ho := house_ok hb
    have k54 := fun h => C54 hc11 rfl rfl m ra fa oa ha dv g hA hg ho h
    rw [← ros_same ho] at k54
    cases hr : rosB m g with
    | false =>
     have e1 : stafV m g = .tuple [.bool false, .int .i64 2] := by unfold stafV; rw [hb, hr]; rfl
     have e2 : danV m g = .tuple [.agg [.int .i64 0, .int .i64 0, .int .i64 0, .int .i64 0], .int .i64 2] := by unfold danV danE; rw [hb, hr]; rfl
     rw [hr] at k54
     rw [e1] at k52
     rw [e2] at k53
     clear v q gs gl hA hg hb e1 e2 hr ho
     refine ClR.walk (c := _) rfl Tryz.func11 rfl (by kernel_rfl) rfl isRet_fail ?_
     try simp only [entryEnv, Nat.reduceAdd, List.nil_append, List.cons_append, emptyHp]
     repeat' (first | refine goS ?_ | (apply U6; exact Z1; exact Z1; (focus (simp only [List.nil_append, List.append_nil]; first | exact k21 _ | exact k22 _ | exact k51 _ | exact k24 _ | exact k52 _ | exact k53 _ | exact k54 _)); simp only [pM, pN, rR, rP]) | refine go2 (fun hh => ?_) (fun hh => ?_) | fail)
     all_goals (simp only [resV_def (X := dX c11) Tryz.func11, Tryz.results11]; first | exact J5 | refine J6 ?_)
     all_goals rfl
    | true =>
     rw [hr] at k54
     have hro := ros_ok hr
     have e1 : stafV m g = .tuple [.bool (stafB m g), .int .i64 0] := by unfold stafV; rw [hb, hr]; rfl
     have k55 := fun h => K55 (X := dX c11) rfl hA hb h
     have k56 := fun h => C56 (c := c11) rfl rfl rfl rfl rfl m ra fa oa ha dv g hA hg ho hro.len hro.path h
     have k57 := fun h => C57 (c := c11) rfl rfl m ra fa oa ha dv g hA hg ho hro.len hro.path h
     rw [e1] at k52
     rw [← staf_kept ho hro.path] at k56
     have a1 := (slN_is (fksE (failsH m))).out
     have a2 := (slN_is (lowsA m (failsH m))).out
     have a3 := (slN_is (highsA m (failsH m))).out
     have hst : (stafB m g != stafB m g) = false := by simp
     unfold airE at k55 k56 k57
     cases hd : danL m g g.length with
     | none =>
      have e2 : danV m g = .tuple [.agg [.int .i64 0, .int .i64 0, .int .i64 0, .int .i64 0], .int .i64 5] := by unfold danV danE; rw [hb, hr, hd]; rfl
      rw [e2] at k53
      rw [hd] at k57
      simp only [danE, Option.isSome_none] at k57
      clear v q gs gl hA hg hb e1 e2 hr ho hro hd
      generalize slN (fksE (failsH m)) = b1 at *
      generalize slN (lowsA m (failsH m)) = b2 at *
      generalize slN (highsA m (failsH m)) = b3 at *
      generalize stafB m g = sb at *
      refine ClR.walk (c := _) rfl Tryz.func11 rfl (by kernel_rfl) rfl isRet_fail ?_
      try simp only [entryEnv, Nat.reduceAdd, List.nil_append, List.cons_append, emptyHp]
      repeat' (first | refine goS ?_ | (apply U6; exact Z1; exact Z1; (focus (simp only [List.nil_append, List.append_nil]; first | exact k21 _ | exact k22 _ | exact k51 _ | exact k24 _ | exact k52 _ | exact k53 _ | exact k54 _ | exact k55 _ | exact k56 _ | exact k57 _)); simp only [pM, pN, rR, rP]) | refine go2 (fun hh => ?_) (fun hh => ?_) | fail)
      all_goals (simp only [resV_def (X := dX c11) Tryz.func11, Tryz.results11]; first | exact J5 | refine J6 ?_)
      all_goals rfl
     | some y =>
      obtain ⟨i, f⟩ := y
      have e2 : danV m g = .tuple [.agg [.int .i64 i, .int .i64 f.tell.what, .int .i64 f.tell.num, .int .i64 f.tell.hour], .int .i64 0] := by unfold danV danE; rw [hb, hr, hd]; rfl
      rw [e2] at k53
      rw [hd] at k57
      simp only [danE, Option.isSome_some] at k57
      clear v q gs gl hA hg hb e1 e2 hr ho hro hd
      generalize slN (fksE (failsH m)) = b1 at *
      generalize slN (lowsA m (failsH m)) = b2 at *
      generalize slN (highsA m (failsH m)) = b3 at *
      generalize stafB m g = sb at *
      refine ClR.walk (c := _) rfl Tryz.func11 rfl (by kernel_rfl) rfl isRet_fail ?_
      try simp only [entryEnv, Nat.reduceAdd, List.nil_append, List.cons_append, emptyHp]
      repeat' (first | refine goS ?_ | (apply U6; exact Z1; exact Z1; (focus (simp only [List.nil_append, List.append_nil]; first | exact k21 _ | exact k22 _ | exact k51 _ | exact k24 _ | exact k52 _ | exact k53 _ | exact k54 _ | exact k55 _ | exact k56 _ | exact k57 _)); simp only [pM, pN, rR, rP]) | refine go2 (fun hh => ?_) (fun hh => ?_) | fail)
      all_goals (simp only [resV_def (X := dX c11) Tryz.func11, Tryz.results11]; first | exact J5 | refine J6 ?_)
      all_goals rfl
end Go.AM
