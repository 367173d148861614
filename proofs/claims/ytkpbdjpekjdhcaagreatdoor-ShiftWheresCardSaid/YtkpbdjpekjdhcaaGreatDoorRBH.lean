/-
  A part of the proof: contracts of functions.
-/
import Derived.Test.YtkpbdjpekjdhcaaGreatDoorRBG
import Derived.Test.YtkpbdjpekjdhcaaGreatDoorRAU
set_option linter.unusedSectionVars false
set_option linter.unusedVariables false
set_option linter.unusedSimpArgs false
set_option maxRecDepth 100000
namespace Go.AM
open Go Go.Proofs
variable [Keep]
attribute [local irreducible] W WO WO1 WD WQ WT thenQ blockQ endR isRet retK Cl ClR
open Go.TX (Rm Fa Ha Hs)
theorem where_same {m : Hs} (ho : HOk m) (seen off : Int) : wP m seen off = wR m seen off := by
 have hr3 := ho.rooms
 unfold wP wR wAll
 exact (wAll_same m seen off _ _ (fun p hp x hx => by have := (allP_mem hp).2 x hx; omega) (fun x hx => by have := (List.mem_replicate.1 hx).2; omega)).1
theorem wAll_len (f : Int → Int → Int) (m : Hs) (seen off : Int) (l : List (List Int)) (n : Nat) : (wAll f m seen off l n).2.length = n := by
 unfold wAll
 rw [w_len, List.length_replicate]
attribute [local irreducible] houseB pathB airS failsH hasB allP wAll
section
variable {c : Itr}
set_option maxHeartbeats 4000000 in
theorem C32 (h32 : c 32 = none) (seen off : Int) (h : Heap) : Cl (dX c) 32 [.int .i64 seen, .int .i64 off] h (.ret (.bool (inB seen 0 2000 && inB off 0 100)) h none) := by
 refine ClR.cl ?_
 unfold inB
 cases e1 : decide (seen ≥ 0) <;> cases e2 : decide (seen ≤ 2000) <;> cases e3 : decide (off ≥ 0) <;> cases e4 : decide (off ≤ 100)
 all_goals
  simp only [Bool.and_self, Bool.and_false, Bool.false_and, Bool.and_true, Bool.true_and]
  refine ClR.walk (c := _) h32 Tryz.func32 rfl (by kernel_rfl) rfl (fun e => by cases e) ?_
  try simp only [entryEnv, Nat.reduceAdd, List.nil_append, List.cons_append, emptyHp]
  repeat' (first | refine goS ?_ | refine go2 (fun hh => ?_) (fun hh => ?_) | fail)
  all_goals (simp only [resV_def (X := dX c) Tryz.func32, Tryz.results32]; first | exact J5 | refine J6 ?_)
  all_goals rfl
end
noncomputable def c5 : Itr
 | 21 => some (pureFn sp21S)
 | 22 => some (pureFn sp22)
 | 24 => some (flatFnD sp82)
 | 31 => some (pureFn sp31)
 | 33 => some (pureFn sp33)
 | 34 => some (flatFnD sp34)
 | _ => none
theorem c5_sound (hT : TabK Tryz.prog) : Sound (dX c5) := dX_sound (fun f g h => by
 unfold c5 at h
 split at h
 ·cases h; exact F21S
 ·cases h; exact F22 hT
 ·cases h; exact F24D
 ·cases h; exact F31
 ·cases h; exact F33
 ·cases h; exact F34
 ·cases h)
set_option maxHeartbeats 8000000 in
theorem T5 (ra fa oa ha : AV) (m : Hs) (seen off : Int) (v : HsI m ra fa oa ha) : ClR (dX c5) 5 [.agg [.int .i64 m.hours, ra, fa, oa, ha], .int .i64 seen, .int .i64 off] emptyHp (isRet (.bool true)) := by
 have o1 := v.r.out
 have o2 := v.f.out
 have o3 := v.o.out
 have o4 := v.h.out
 have k22 : ∀ h, Cl (dX c5) 22 [] h (.ret (.bool true) h none) := fun h => K22 rfl h
 have k21 := fun h => K21I (X := dX c5) rfl v h
 have q0 : ((0 : Int) == 0) = true := rfl
 have q2 : ((2 : Int) == 2) = true := rfl
 have q5 : ((5 : Int) == 5) = true := rfl
 have tt : (true && true) = true := rfl
 have hl0 : lenS .nilslice = some 0 := rfl
 have z0 : (((0 : Nat) : Int) == 0) = true := rfl
 cases gs : shortB m with
 | false =>
  rw [gs] at k21
  clear v gs
  refine ClR.walk (c := _) rfl Tryz.func5 rfl (by kernel_rfl) rfl isRet_fail ?_
  try simp only [entryEnv, Nat.reduceAdd, List.nil_append, List.cons_append, emptyHp]
  repeat' (first | refine goS ?_ | (apply U6; exact Z1; exact Z1; (focus (simp only [List.nil_append, List.append_nil]; first | exact k21 _ | exact k22 _)); simp only [pM, pN, rR, rP]) | refine go2 (fun hh => ?_) (fun hh => ?_) | fail)
  all_goals (simp only [resV_def (X := dX c5) Tryz.func5, Tryz.results5]; first | exact J5 | refine J6 ?_)
  all_goals rfl
 | true =>
  rw [gs] at k21
  have hA := v.short gs
  have k24 := fun h => K24p (X := dX c5) rfl hA h
  have k31 := fun h => K31 (X := dX c5) rfl hA seen off h
  have k32 := fun h => C32 (c := c5) rfl seen off h
  cases hb : houseB m with
  | false =>
   have e1 : whereV m seen off = .tuple [.nilslice, .int .i64 2] := by unfold whereV; rw [hb]; rfl
   rw [hb] at k24
   rw [e1] at k31
   clear v gs hA hb e1
   refine ClR.walk (c := _) rfl Tryz.func5 rfl (by kernel_rfl) rfl isRet_fail ?_
   try simp only [entryEnv, Nat.reduceAdd, List.nil_append, List.cons_append, emptyHp]
   repeat' (first | refine goS ?_ | (apply U6; exact Z1; exact Z1; (focus (simp only [List.nil_append, List.append_nil]; first | exact k21 _ | exact k22 _ | exact k24 _ | exact k31 _)); simp only [pM, pN, rR, rP]) | refine go2 (fun hh => ?_) (fun hh => ?_) | fail)
   all_goals (simp only [resV_def (X := dX c5) Tryz.func5, Tryz.results5]; first | exact J5 | refine J6 ?_)
   all_goals rfl
  | true =>
   rw [hb] at k24
   cases hs : (inB seen 0 2000 && inB off 0 100) with
   | false =>
    have e1 : whereV m seen off = .tuple [.nilslice, .int .i64 2] := by unfold whereV; rw [hb, Bool.true_and, hs]; rfl
    rw [hs] at k32
    rw [e1] at k31
    clear v gs hA hb e1 hs
    refine ClR.walk (c := _) rfl Tryz.func5 rfl (by kernel_rfl) rfl isRet_fail ?_
    try simp only [entryEnv, Nat.reduceAdd, List.nil_append, List.cons_append, emptyHp]
    repeat' (first | refine goS ?_ | (apply U6; exact Z1; exact Z1; (focus (simp only [List.nil_append, List.append_nil]; first | exact k21 _ | exact k22 _ | exact k24 _ | exact k31 _ | exact k32 _)); simp only [pM, pN, rR, rP]) | refine go2 (fun hh => ?_) (fun hh => ?_) | fail)
    all_goals (simp only [resV_def (X := dX c5) Tryz.func5, Tryz.results5]; first | exact J5 | refine J6 ?_)
    all_goals rfl
   | true =>
    rw [hs] at k32
    have ho := house_ok hb
    have k33 := fun h => K33 (X := dX c5) rfl hA hb seen off h
    have hh := ho.hours
    have hlen : (wR m seen off).2.length ≤ maxL := by unfold wR; rw [wAll_len]; unfold maxL; omega
    have hsl := ints_sl _ hlen
    have k34 := fun h => K34 (X := dX c5) rfl (SeeV.of hsl h) (SeeV.of hsl h)
    have hdr : decide ((wR m seen off).2 = (wR m seen off).2) = true := by simp
    have ol := sl_out hsl
    have hws := where_same ho seen off
    cases hw : (wR m seen off).1 with
    | false =>
     have e1 : whereV m seen off = .tuple [.nilslice, .int .i64 5] := by unfold whereV; rw [hb, Bool.true_and, hs, hws, hw]; rfl
     rw [e1] at k31
     rw [hw] at k33
     clear v gs hA hb e1 hs ho hh hlen hsl hws hw k34 hdr
     generalize slN (intsE (wR m seen off).2) = wv at *
     refine ClR.walk (c := _) rfl Tryz.func5 rfl (by kernel_rfl) rfl isRet_fail ?_
     try simp only [entryEnv, Nat.reduceAdd, List.nil_append, List.cons_append, emptyHp]
     repeat' (first | refine goS ?_ | (apply U6; exact Z1; exact Z1; (focus (simp only [List.nil_append, List.append_nil]; first | exact k21 _ | exact k22 _ | exact k24 _ | exact k31 _ | exact k32 _ | exact k33 _)); simp only [pM, pN, rR, rP]) | refine go2 (fun hh => ?_) (fun hh => ?_) | fail)
     all_goals (simp only [resV_def (X := dX c5) Tryz.func5, Tryz.results5]; first | exact J5 | refine J6 ?_)
     all_goals rfl
    | true =>
     have e1 : whereV m seen off = .tuple [slN (intsE (wR m seen off).2), .int .i64 0] := by unfold whereV; rw [hb, Bool.true_and, hs, hws, hw]; rfl
     rw [e1] at k31
     rw [hw] at k33
     rw [hdr] at k34
     clear v gs hA hb e1 hs ho hh hlen hsl hws hw hdr
     generalize slN (intsE (wR m seen off).2) = wv at *
     refine ClR.walk (c := _) rfl Tryz.func5 rfl (by kernel_rfl) rfl isRet_fail ?_
     try simp only [entryEnv, Nat.reduceAdd, List.nil_append, List.cons_append, emptyHp]
     repeat' (first | refine goS ?_ | (apply U6; exact Z1; exact Z1; (focus (simp only [List.nil_append, List.append_nil]; first | exact k21 _ | exact k22 _ | exact k24 _ | exact k31 _ | exact k32 _ | exact k33 _ | exact k34 _)); simp only [pM, pN, rR, rP]) | refine go2 (fun hh => ?_) (fun hh => ?_) | fail)
     all_goals (simp only [resV_def (X := dX c5) Tryz.func5, Tryz.results5]; first | exact J5 | refine J6 ?_)
     all_goals rfl
end Go.AM
