/-
  A part of the proof: contracts of functions.
-/
import Derived.Test.YtkpbdjpekjdhcaaGreatDoorRBN
import Derived.Test.YtkpbdjpekjdhcaaGreatDoorRAU
import Derived.Test.YtkpbdjpekjdhcaaGreatDoorRBD
set_option linter.unusedSectionVars false
set_option linter.unusedVariables false
set_option linter.unusedSimpArgs false
set_option maxRecDepth 100000
namespace Go.AM
open Go Go.Proofs
variable [Keep]
attribute [local irreducible] W WO WO1 WD WQ WT thenQ blockQ endR isRet retK Cl ClR
open Go.TX (Rm Fa Ha Hs)
theorem bool_eq (a b : Bool) : binV Tryz.prog .eql 4 false (.bool a) (.bool b) = some (.bool (a == b)) := by
 have h : eqT Tryz.prog eqDepth 4 (.bool a) (.bool b) = some (a == b) := by
  unfold eqDepth
  rw [eqT.eq_def]
  simp only [Tryz.underlying4]
 simp only [binV, eqOp, eqV, h]
theorem ord_mem {m : Hs} {d : List Int} {w : Bool} {p : List Int} (h : ordP m d w = some p) : p ∈ allP m.rooms.length m.hours.toNat ∧ doesB p d = true := by
 unfold ordP at h
 rcases best_mem _ _ _ h with h1 | h1
 ·unfold ordL at h1
  rw [List.mem_filter] at h1
  exact h1
 ·cases h1
theorem ord_parts {m : Hs} (ho : HOk m) {d : List Int} (h : (houseB m && dutyP m d) = true) (w : Bool) : ∃ v l, ordV m d w = .tuple [v, .int .i64 (ordM m d w), .int .i64 0] ∧ ordE m (ordP m d w) = [v, .int .i64 (ordM m d w)] ∧ slV intC v = some l ∧ l = (ordP m d w).getD [] := by
 have hh := ho.hours
 unfold ordV ordM
 rw [if_pos h]
 cases hq : ordP m d w with
 | none => exact ⟨.nilslice, [], rfl, rfl, rfl, rfl⟩
 | some p => exact ⟨slN (intsE p), p, rfl, rfl, ints_sl p (by rw [(allP_mem (ord_mem hq).1).1]; unfold maxL; omega), rfl⟩
attribute [local irreducible] houseB pathB airS failsH ordP dutyP dutyR ordM
noncomputable def c10 : Itr
 | 21 => some (pureFn sp21S)
 | 22 => some (pureFn sp22)
 | 24 => some (flatFnD sp82)
 | 34 => some (flatFnD sp34)
 | 45 => some (pureFn sp45)
 | 46 => some (pureFn sp46)
 | 47 => some (pureFn sp47)
 | 49 => some (pureFn sp49)
 | 84 => some (pureFn sp84)
 | 85 => some (pureFn sp85)
 | _ => none
theorem c10_sound (hT : TabK Tryz.prog) : Sound (dX c10) := dX_sound (fun f g h => by
 unfold c10 at h
 split at h
 ·cases h; exact F21S
 ·cases h; exact F22 hT
 ·cases h; exact F24D
 ·cases h; exact F34
 ·cases h; exact F45
 ·cases h; exact F46
 ·cases h; exact F47
 ·cases h; exact F49
 ·cases h; exact F84
 ·cases h; exact F85
 ·cases h)
theorem hc10 : CxR c10 := ⟨rfl, rfl, rfl, rfl, rfl, rfl, rfl, rfl⟩
set_option maxHeartbeats 16000000 in
theorem T10 (ra fa oa ha da : AV) (m : Hs) (d : List Int) (limit : Int) (v : HsI m ra fa oa ha) (q : isSl da (d.map intC.enc)) : ClR (dX c10) 10 [.agg [.int .i64 m.hours, ra, fa, oa, ha], da, .int .i64 limit] emptyHp (isRet (.bool true)) := by
 have o1 := v.r.out
 have o2 := v.f.out
 have o3 := v.o.out
 have o4 := v.h.out
 have od := q.out
 have ld := q.len
 rw [List.length_map] at ld
 have k22 : ∀ h, Cl (dX c10) 22 [] h (.ret (.bool true) h none) := fun h => K22 rfl h
 have k21 := fun h => K21I (X := dX c10) rfl v h
 have q0 : ((0 : Int) == 0) = true := rfl
 have q2 : ((2 : Int) == 2) = true := rfl
 have n0 : ((0 : Int) != 0) = false := rfl
 have tt : (true && true) = true := rfl
 have hl0 : lenS .nilslice = some 0 := rfl
 have z0 : (((0 : Nat) : Int) == 0) = true := rfl
 have hbe := bool_eq
 cases gs : shortB m with
 | false =>
  rw [gs] at k21
  clear v q gs
  refine ClR.walk (c := _) rfl Tryz.func10 rfl (by kernel_rfl) rfl isRet_fail ?_
  try simp only [entryEnv, Nat.reduceAdd, List.nil_append, List.cons_append, emptyHp]
  repeat' (first | refine goS ?_ | (apply U6; exact Z1; exact Z1; (focus (simp only [List.nil_append, List.append_nil]; first | exact k21 _ | exact k22 _)); simp only [pM, pN, rR, rP]) | refine go2 (fun hh => ?_) (fun hh => ?_) | fail)
  all_goals (simp only [resV_def (X := dX c10) Tryz.func10, Tryz.results10]; first | exact J5 | refine J6 ?_)
  all_goals rfl
 | true =>
  rw [gs] at k21
  cases gz : decide ((d.length : Int) > 5) with
  | true =>
   clear v q gs
   refine ClR.walk (c := _) rfl Tryz.func10 rfl (by kernel_rfl) rfl isRet_fail ?_
   try simp only [entryEnv, Nat.reduceAdd, List.nil_append, List.cons_append, emptyHp]
   repeat' (first | refine goS ?_ | (apply U6; exact Z1; exact Z1; (focus (simp only [List.nil_append, List.append_nil]; first | exact k21 _ | exact k22 _)); simp only [pM, pN, rR, rP]) | refine go2 (fun hh => ?_) (fun hh => ?_) | fail)
   all_goals (simp only [resV_def (X := dX c10) Tryz.func10, Tryz.results10]; first | exact J5 | refine J6 ?_)
   all_goals rfl
  | false =>
   have hA := v.short gs
   have hd : slV intC da = some d := slV_mk q (by simp only [decide_eq_false_iff_not] at gz; unfold maxL; omega)
   have k24 := fun h => K24p (X := dX c10) rfl hA h
   have k45 := fun h => K45 (X := dX c10) rfl hA hd h
   have k46 := fun h => K46 (X := dX c10) rfl hA hd h
   have k47 := fun h => K47 (X := dX c10) rfl hA hd limit h
   have k48 := fun h => C48 (c := c10) hc10 rfl m ra fa oa ha da d hA hd h
   have k50 := fun h => C50 (c := c10) hc10 rfl limit h
   cases hb : houseB m with
   | false =>
    have hn : (houseB m && dutyP m d) = false := by rw [hb]; rfl
    have e3 : anyV m limit d = .tuple [.bool false, .int .i64 2] := by unfold anyV; rw [hn]; rfl
    rw [hb] at k24
    rw [ordV_no hn] at k45 k46
    rw [e3] at k47
    clear v q gs hA hd hb hn e3
    refine ClR.walk (c := _) rfl Tryz.func10 rfl (by kernel_rfl) rfl isRet_fail ?_
    try simp only [entryEnv, Nat.reduceAdd, List.nil_append, List.cons_append, emptyHp]
    repeat' (first | refine goS ?_ | (apply U6; exact Z1; exact Z1; (focus (simp only [List.nil_append, List.append_nil]; first | exact k21 _ | exact k22 _ | exact k45 _ | exact k46 _ | exact k47 _ | exact k24 _)); simp only [pM, pN, rR, rP]) | refine go2 (fun hh => ?_) (fun hh => ?_) | fail)
    all_goals (simp only [resV_def (X := dX c10) Tryz.func10, Tryz.results10]; first | exact J5 | refine J6 ?_)
    all_goals rfl
   | true =>
    rw [hb] at k24
    have ho := house_ok hb
    rw [← duty_same ho] at k48
    cases hq : dutyP m d with
    | false =>
     have hn : (houseB m && dutyP m d) = false := by rw [hb, hq]; rfl
     have e3 : anyV m limit d = .tuple [.bool false, .int .i64 2] := by unfold anyV; rw [hn]; rfl
     rw [hq] at k48
     rw [ordV_no hn] at k45 k46
     rw [e3] at k47
     clear v q gs hA hd hb hn e3 hq ho
     refine ClR.walk (c := _) rfl Tryz.func10 rfl (by kernel_rfl) rfl isRet_fail ?_
     try simp only [entryEnv, Nat.reduceAdd, List.nil_append, List.cons_append, emptyHp]
     repeat' (first | refine goS ?_ | (apply U6; exact Z1; exact Z1; (focus (simp only [List.nil_append, List.append_nil]; first | exact k21 _ | exact k22 _ | exact k45 _ | exact k46 _ | exact k47 _ | exact k24 _ | exact k48 _)); simp only [pM, pN, rR, rP]) | refine go2 (fun hh => ?_) (fun hh => ?_) | fail)
     all_goals (simp only [resV_def (X := dX c10) Tryz.func10, Tryz.results10]; first | exact J5 | refine J6 ?_)
     all_goals rfl
    | true =>
     rw [hq] at k48
     have hy : (houseB m && dutyP m d) = true := by rw [hb, hq]; rfl
     have k49 := fun h => K49 (X := dX c10) rfl hA hd hb true h
     have k49b := fun h => K49 (X := dX c10) rfl hA hd hb false h
     obtain ⟨wv, wl, w1, w2, w3, _⟩ := ord_parts ho hy true
     obtain ⟨bv, bl, b1, b2, b3, _⟩ := ord_parts ho hy false
     rw [w1] at k45
     rw [b1] at k46
     rw [w2] at k49
     rw [b2] at k49b
     have k34 := fun h => K34 (X := dX c10) rfl (SeeV.of w3 h) (SeeV.of w3 h)
     have k34b := fun h => K34 (X := dX c10) rfl (SeeV.of b3 h) (SeeV.of b3 h)
     have hw : decide (wl = wl) = true := by simp
     have hbb : decide (bl = bl) = true := by simp
     rw [hw] at k34
     rw [hbb] at k34b
     have ow := sl_out w3
     have ob := sl_out b3
     have nw : (ordM m d true != ordM m d true) = false := by simp
     have nb : (ordM m d false != ordM m d false) = false := by simp
     cases hl : inB limit 0 2000 with
     | false =>
      have e3 : anyV m limit d = .tuple [.bool false, .int .i64 2] := by unfold anyV; rw [hy, hl]; rfl
      rw [e3] at k47
      rw [hl] at k50
      clear v q gs hA hd hb hq hy ho w1 w2 w3 b1 b2 b3 hw hbb e3 hl
      generalize ordM m d true = ow1 at *
      generalize ordM m d false = ob1 at *
      refine ClR.walk (c := _) rfl Tryz.func10 rfl (by kernel_rfl) rfl isRet_fail ?_
      try simp only [entryEnv, Nat.reduceAdd, List.nil_append, List.cons_append, emptyHp]
      repeat' (first | refine goS ?_ | (apply U6; exact Z1; exact Z1; (focus (simp only [List.nil_append, List.append_nil]; first | exact k21 _ | exact k22 _ | exact k45 _ | exact k46 _ | exact k47 _ | exact k24 _ | exact k48 _ | exact k49 _ | exact k49b _ | exact k34 _ | exact k34b _ | exact k50 _)); simp only [pM, pN, rR, rP]) | refine go2 (fun hh => ?_) (fun hh => ?_) | fail)
      all_goals (simp only [resV_def (X := dX c10) Tryz.func10, Tryz.results10]; first | exact J5 | refine J6 ?_)
      all_goals rfl
     | true =>
      have e3 : anyV m limit d = .tuple [.bool (decide (ordM m d true ≤ limit)), .int .i64 0] := by unfold anyV; rw [hy, hl]; rfl
      rw [e3] at k47
      rw [hl] at k50
      have hself : ∀ b : Bool, (b == b) = true := fun b => by simp
      clear v q gs hA hd hb hq hy ho w1 w2 w3 b1 b2 b3 hw hbb e3 hl
      generalize ordM m d true = ow1 at *
      generalize ordM m d false = ob1 at *
      have hself := hself (decide (ow1 ≤ limit))
      refine ClR.walk (c := _) rfl Tryz.func10 rfl (by kernel_rfl) rfl isRet_fail ?_
      try simp only [entryEnv, Nat.reduceAdd, List.nil_append, List.cons_append, emptyHp]
      repeat' (first | refine goS ?_ | (apply U6; exact Z1; exact Z1; (focus (simp only [List.nil_append, List.append_nil]; first | exact k21 _ | exact k22 _ | exact k45 _ | exact k46 _ | exact k47 _ | exact k24 _ | exact k48 _ | exact k49 _ | exact k49b _ | exact k34 _ | exact k34b _ | exact k50 _)); simp only [pM, pN, rR, rP]) | refine go2 (fun hh => ?_) (fun hh => ?_) | fail)
      all_goals (simp only [resV_def (X := dX c10) Tryz.func10, Tryz.results10]; first | exact J5 | refine J6 ?_)
      all_goals rfl
end Go.AM
