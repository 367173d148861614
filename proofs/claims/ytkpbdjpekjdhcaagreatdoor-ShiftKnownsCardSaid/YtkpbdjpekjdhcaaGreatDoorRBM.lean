/-
  A part of the proof: contracts of functions.
-/
import Derived.Test.YtkpbdjpekjdhcaaGreatDoorRBL
import Derived.Test.YtkpbdjpekjdhcaaGreatDoorRAU
set_option linter.unusedSectionVars false
set_option linter.unusedVariables false
set_option linter.unusedSimpArgs false
set_option maxRecDepth 100000
namespace Go.AM
open Go Go.Proofs
variable [Keep]
attribute [local irreducible] W WO WO1 WD WQ WT thenQ blockQ endR isRet retK Cl ClR
open Go.TX (Rm Fa Ha Hs)
attribute [local irreducible] houseB knG
noncomputable def c3 : Itr
 | 21 => some (pureFn sp21S)
 | 22 => some (pureFn sp22)
 | 23 => some (newQ sp23)
 | 24 => some (flatFnD sp82)
 | 26 => some (newQ sp26)
 | _ => none
theorem c3_sound (hT : TabK Tryz.prog) : Sound (dX c3) := dX_sound (fun f g h => by
 unfold c3 at h
 split at h
 ·cases h; exact F21S
 ·cases h; exact F22 hT
 ·cases h; exact F23
 ·cases h; exact F24D
 ·cases h; exact F26
 ·cases h)
set_option maxHeartbeats 8000000 in
theorem T3 (ra fa oa ha : AV) (m : Hs) (v : HsI m ra fa oa ha) : ClR (dX c3) 3 [.agg [.int .i64 m.hours, ra, fa, oa, ha]] emptyHp (isRet (.bool true)) := by
 have o1 := v.r.out
 have o2 := v.f.out
 have o3 := v.o.out
 have o4 := v.h.out
 have k22 : ∀ h, Cl (dX c3) 22 [] h (.ret (.bool true) h none) := fun h => K22 rfl h
 have k21 := fun h => K21I (X := dX c3) rfl v h
 have q0 : ((0 : Int) == 0) = true := rfl
 have q2 : ((2 : Int) == 2) = true := rfl
 have tt : (true && true) = true := rfl
 have hl0 : lenS .nilslice = some 0 := rfl
 have z0 : (((0 : Nat) : Int) == 0) = true := rfl
 cases gs : shortB m with
 | false =>
  rw [gs] at k21
  clear v gs
  refine ClR.walk (c := _) rfl Tryz.func3 rfl (by kernel_rfl) rfl isRet_fail ?_
  try simp only [entryEnv, Nat.reduceAdd, List.nil_append, List.cons_append, emptyHp]
  repeat' (first | refine goS ?_ | (apply U6; exact Z1; exact Z1; (focus (simp only [List.nil_append, List.append_nil]; first | exact k21 _ | exact k22 _)); simp only [pM, pN, rR, rP]) | refine go2 (fun hh => ?_) (fun hh => ?_) | fail)
  all_goals (simp only [resV_def (X := dX c3) Tryz.func3, Tryz.results3]; first | exact J5 | refine J6 ?_)
  all_goals rfl
 | true =>
  rw [gs] at k21
  have hA := v.short gs
  have k24 := fun h => K24p (X := dX c3) rfl hA h
  have k23 := fun h => K23 (X := dX c3) rfl hA h
  cases hb : houseB m with
  | false =>
   have e1 : knV m = .tuple [.nilslice, .int .i64 2] := by unfold knV; rw [hb]; rfl
   rw [hb] at k24
   rw [e1] at k23
   clear v gs hA hb e1
   refine ClR.walk (c := _) rfl Tryz.func3 rfl (by kernel_rfl) rfl isRet_fail ?_
   try simp only [entryEnv, Nat.reduceAdd, List.nil_append, List.cons_append, emptyHp]
   repeat' (first | refine goS ?_ | (apply U6; exact Z1; exact Z1; (focus (simp only [List.nil_append, List.append_nil]; first | exact k21 _ | exact k22 _ | exact k23 _ | exact k24 _)); simp only [pM, pN, rR, rP]) | refine go2 (fun hh => ?_) (fun hh => ?_) | fail)
   all_goals (simp only [resV_def (X := dX c3) Tryz.func3, Tryz.results3]; first | exact J5 | refine J6 ?_)
   all_goals rfl
  | true =>
   have e1 : knV m = .tuple [slN (spansE (knG m m.hours.toNat m.rooms.length)), .int .i64 0] := by unfold knV; rw [hb]; rfl
   rw [hb] at k24
   rw [e1] at k23
   have k26 := fun h => K26 (X := dX c3) rfl hA hb h
   have ho := house_ok hb
   have h1 := ho.hours
   have h2 := ho.rooms
   have hgr : ∀ n : Nat, ∀ l ∈ knG m m.hours.toNat n, l.length ≤ 100 := by
    intro n
    induction n with
    | zero => intro l hl; simp [knG] at hl
    | succ n ih =>
     intro l hl
     rw [knG, List.mem_append, List.mem_singleton] at hl
     rcases hl with hl | rfl
     ·exact ih l hl
     ·rw [rowK_len]; omega
   have k25 := fun h => C25 (c := c3) rfl (knG m m.hours.toNat m.rooms.length) (by rw [knG_len]; omega) (hgr _) h
   have a1 := (slN_is (spansE (knG m m.hours.toNat m.rooms.length))).out
   clear v gs hA hb e1 ho h1 h2 hgr
   generalize slN (spansE (knG m m.hours.toNat m.rooms.length)) = ks at *
   refine ClR.walk (c := _) rfl Tryz.func3 rfl (by kernel_rfl) rfl isRet_fail ?_
   try simp only [entryEnv, Nat.reduceAdd, List.nil_append, List.cons_append, emptyHp]
   repeat' (first | refine goS ?_ | (apply U6; exact Z1; exact Z1; (focus (simp only [List.nil_append, List.append_nil]; first | exact k21 _ | exact k22 _ | exact k23 _ | exact k24 _ | exact k26 _ | exact k25 _)); simp only [pM, pN, rR, rP]) | refine go2 (fun hh => ?_) (fun hh => ?_) | fail)
   all_goals (simp only [resV_def (X := dX c3) Tryz.func3, Tryz.results3]; first | exact J5 | refine J6 ?_)
   all_goals rfl
end Go.AM
