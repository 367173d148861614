/-
  A part of the proof: contracts of functions.
-/
import Derived.Test.YtkpbdjpekjdhcaaGreatDoorUAL
set_option linter.unusedSectionVars false
set_option linter.unusedVariables false
set_option linter.unusedSimpArgs false
set_option maxRecDepth 100000
namespace Go.AM
open Go Go.Proofs
variable [Keep]
attribute [local irreducible] W WO WO1 WD WQ WT thenQ blockQ endR isRet retK Cl ClR
open Go.TX (Rm Fa Ha Hs)
attribute [local irreducible] failP madeF houseB
def fndV (m : Hs) (ra fa oa ha : AV) (x : Fk) : AV := match findF x (failsH m) with
 | some f => .tuple [.agg [.int .i64 m.hours, ra, fa, oa, ha, f.enc], .bool true]
 | none => .tuple [zero157, .bool false]
theorem K106 {X : Ctx} (hX : X.intr 106 = some (pureFn sp106)) {ra fa oa ha : AV} {m : Hs} (hm : HsA m ra fa oa ha) (hw : walkB m = true) (x : Fk) (h : Heap) :
  Cl X 106 [.agg [.int .i64 m.hours, ra, fa, oa, ha], fkC.enc x] h (.ret (fndV m ra fa oa ha x) h none) :=
 Cl.intr hX (by
  have hh := hm.hs
  obtain ⟨w, a, b⟩ := x
  simp only [pureFn, fkC, AV.pur, AV.purL, sl_pur hm.r, sl_pur hm.f, sl_pur hm.o, sl_pur hm.h, Bool.and_self, if_true, sp106, hh, hw]
  rfl)
def madeV (m : Hs) (x : Fk) : AV := if houseB m = true then (match findF x (failsH m) with
 | some f => .tuple [.int .i64 (madeF m f m.hours.toNat m.rooms.length), .int .i64 0]
 | none => .tuple [.int .i64 0, .int .i64 2]) else .tuple [.int .i64 0, .int .i64 2]
def sp35 : List AV → Option AV
 | [x, a] => match hsV x, fkC.dec a with
  | some m, some y => some (madeV m y)
  | _, _ => none
 | _ => none
theorem p35 : ∀ args v, sp35 args = some v → v.pur = true := by
 intro args v h
 unfold sp35 at h
 split at h
 ·split at h
  ·cases h
   unfold madeV
   split
   ·split <;> rfl
   ·rfl
  ·cases h
 ·cases h
set_option maxHeartbeats 2000000 in
theorem F35 : IntrFn Tryz.prog 35 (pureFn sp35) := by
 refine pure_fn (X := dX cND) cND_sound p35 ?_
 intro args v h
 unfold sp35 at h
 split at h
 ·split at h
  ·rename_i m y hm hy
   have h := Option.some.inj h
   subst h
   obtain ⟨ra, fa, oa, ha, rfl, hA⟩ := hs_parts' hm
   obtain rfl := fkC.ed _ _ hy
   have o1 := sl_out hA.r
   have o2 := sl_out hA.f
   have o3 := sl_out hA.o
   have o4 := sl_out hA.h
   have k82 := fun h => K82p (X := dX cND) rfl hA h
   unfold madeV
   cases hb : houseB m with
   | false =>
    rw [hb] at k82
    simp only [Bool.false_eq_true, if_false, fkC]
    clear hm hy hA hb
    refine ClR.walk (c := _) rfl Tryz.func35 rfl (by kernel_rfl) rfl isRet_fail ?_
    try simp only [entryEnv, Nat.reduceAdd, List.nil_append, List.cons_append, emptyHp]
    repeat' (first | refine goS ?_ | (apply U6; exact Z1; exact Z1; (focus (simp only [List.nil_append, List.append_nil]; first | exact k82 _)); simp only [pM, pN, rR, rP]) | refine go2 (fun hh => ?_) (fun hh => ?_) | fail)
    all_goals (simp only [resV_def (X := dX cND) Tryz.func35, Tryz.results35]; first | exact J5 | refine J6 ?_)
    all_goals rfl
   | true =>
    rw [hb] at k82
    have hw := ho_walk (house_ok hb)
    have k106 := fun h => K106 (X := dX cND) rfl hA hw y h
    unfold fndV at k106
    simp only [if_true]
    cases hf : findF y (failsH m) with
    | none =>
     rw [hf] at k106
     simp only [zero157, fkC] at k106 ⊢
     clear hm hy hA hb hw hf
     refine ClR.walk (c := _) rfl Tryz.func35 rfl (by kernel_rfl) rfl isRet_fail ?_
     try simp only [entryEnv, Nat.reduceAdd, List.nil_append, List.cons_append, emptyHp]
     repeat' (first | refine goS ?_ | (apply U6; exact Z1; exact Z1; (focus (simp only [List.nil_append, List.append_nil]; first | exact k82 _ | exact k106 _)); simp only [pM, pN, rR, rP]) | refine go2 (fun hh => ?_) (fun hh => ?_) | fail)
     all_goals (simp only [resV_def (X := dX cND) Tryz.func35, Tryz.results35]; first | exact J5 | refine J6 ?_)
     all_goals rfl
    | some f =>
     rw [hf] at k106
     have k107 := fun h => K107 (X := dX cND) rfl hA hw f h
     obtain ⟨fo, fcl, fit, _⟩ := fl_parts f
     simp only [fkC] at k106 ⊢
     simp only [AV.cells] at fcl
     simp only [isTuple] at fit
     clear hm hy hA hb hw hf
     generalize f.enc = fv at *
     refine ClR.walk (c := _) rfl Tryz.func35 rfl (by kernel_rfl) rfl isRet_fail ?_
     try simp only [entryEnv, Nat.reduceAdd, List.nil_append, List.cons_append, emptyHp]
     repeat' (first | refine goS ?_ | (apply U6; exact Z1; exact Z1; (focus (simp only [List.nil_append, List.append_nil]; first | exact k82 _ | exact k106 _ | exact k107 _)); simp only [pM, pN, rR, rP]) | refine go2 (fun hh => ?_) (fun hh => ?_) | fail)
     all_goals (simp only [resV_def (X := dX cND) Tryz.func35, Tryz.results35]; first | exact J5 | refine J6 ?_)
     all_goals rfl
  ·cases h
 ·cases h
theorem F36 : IntrFn Tryz.prog 36 (pureFn sp36) := by
 refine pure_fn (X := dX cND) cND_sound p36 ?_
 intro args v h
 unfold sp36 at h
 split at h
 ·simp only [Option.map_eq_some_iff] at h
  obtain ⟨m, hm, rfl⟩ := h
  obtain ⟨ra, fa, oa, ha, rfl, hA⟩ := hs_parts' hm
  exact R36 m ra fa oa ha hA
 ·cases h
end Go.AM
