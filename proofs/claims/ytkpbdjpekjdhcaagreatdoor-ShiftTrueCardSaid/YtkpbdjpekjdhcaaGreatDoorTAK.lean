/-
  A part of the proof: contracts of functions.
-/
import Derived.Test.YtkpbdjpekjdhcaaGreatDoorTAJ
set_option linter.unusedSectionVars false
set_option linter.unusedVariables false
set_option linter.unusedSimpArgs false
set_option maxRecDepth 100000
namespace Go.AM
open Go Go.Proofs
variable [Keep]
attribute [local irreducible] W WO WO1 WD WQ WT thenQ blockQ endR isRet retK Cl ClR
open Go.TX (Rm Fa Ha Hs)
attribute [local irreducible] roundQ RdR hasB
structure HsA (m : Hs) (ra fa oa ha : AV) : Prop where
 r : slV rmC ra = some m.rooms
 f : slV faC fa = some m.fans
 o : slV intC oa = some m.op
 h : slV haC ha = some m.hands
theorem hs_parts' {x : AV} {m : Hs} (h : hsV x = some m) : ∃ ra fa oa ha, x = .agg [.int .i64 m.hours, ra, fa, oa, ha] ∧ HsA m ra fa oa ha := by
 obtain ⟨a, b, c, d, e, v1, v2, v3, v4⟩ := hsV_is h
 exact ⟨a, b, c, d, e, v1, v2, v3, v4⟩
theorem HsA.hs {m : Hs} {ra fa oa ha : AV} (q : HsA m ra fa oa ha) : hsV (.agg [.int .i64 m.hours, ra, fa, oa, ha]) = some m := by
 simp only [hsV, q.r, q.f, q.o, q.h]
theorem HsA.pur {m : Hs} {ra fa oa ha : AV} (q : HsA m ra fa oa ha) : AV.pur (.agg [.int .i64 m.hours, ra, fa, oa, ha]) = true := by
 simp [AV.pur, AV.purL, sl_pur q.r, sl_pur q.f, sl_pur q.o, sl_pur q.h]
structure CxR (c : Itr) : Prop where
 h84 : c 84 = some (pureFn sp84)
 h85 : c 85 = some (pureFn sp85)
 h75 : c 75 = none
 h109 : c 109 = none
 h39 : c 39 = none
 h38 : c 38 = none
 h69 : c 69 = none
 h128 : c 128 = none
section
variable {c : Itr}
theorem C69 (hc : CxR c) (h : Heap) : Cl (dX c) 69 [] h (.ret (fkC.enc ⟨1, 0, 0⟩) h none) := by
 refine ClR.cl ?_
 have h0 := hc.h69
 refine ClR.walk (c := _) h0 Tryz.func69 rfl (by kernel_rfl) rfl (fun e => by cases e) ?_
 try simp only [entryEnv, Nat.reduceAdd, List.nil_append, List.cons_append, emptyHp]
 repeat' (first | refine goS ?_ | refine go2 (fun hh => ?_) (fun hh => ?_) | fail)
 all_goals (simp only [resV_def (X := dX c) Tryz.func69, Tryz.results69]; first | exact J5 | refine J6 ?_)
 all_goals rfl
end
end Go.AM
namespace Go.AM
open Go Go.Proofs
variable [Keep]
attribute [local irreducible] W WO WO1 WD WQ WT thenQ blockQ endR isRet retK Cl ClR
open Go.TX (Rm Fa Ha Hs)
attribute [local irreducible] runsB madeR madeF
theorem ho_parts {m : Hs} (ho : HOk m) : ∃ nn : Nat, m.hours = nn ∧ m.hours.toNat = nn ∧ 1 ≤ nn ∧ nn ≤ 4 ∧ m.op.length = nn := by
 have h1 := ho.hours
 have h2 := ho.op
 exact ⟨m.hours.toNat, by omega, rfl, by omega, by omega, by omega⟩
theorem ho_walk {m : Hs} (ho : HOk m) : walkB m = true := by
 obtain ⟨nn, h1, h2, h3, h4, h5⟩ := ho_parts ho
 have h6 := ho.rooms
 have h7 := ho.fans
 unfold walkB
 simp only [Bool.and_eq_true, decide_eq_true_eq]
 omega
section
variable {c : Itr}
def isFail (m : Hs) (x : Fk) : Bool :=
 if x.what == 1 then (x.what == 1 && x.num == 0 && x.hour == 0) else if x.what == 2 then inB x.num 0 (w64 (m.fans.length - 1)) && inB x.hour 0 (w64 (m.hours - 1)) else x.what == 3 && inB x.num 0 (w64 (m.rooms.length - 1)) && inB x.hour 0 (w64 (m.hours - 1))
set_option maxHeartbeats 4000000 in
theorem C38 (hc : CxR c) (m : Hs) (x : Fk) (ra fa oa ha : AV) (hm : HsA m ra fa oa ha) (h : Heap) :
  Cl (dX c) 38 [.agg [.int .i64 m.hours, ra, fa, oa, ha], fkC.enc x] h (.ret (.bool (isFail m x)) h none) := by
 refine ClR.cl ?_
 have l1 := sl_len hm.r
 have l2 := sl_len hm.f
 have o1 := sl_out hm.r
 have o2 := sl_out hm.f
 have o3 := sl_out hm.o
 have o4 := sl_out hm.h
 have k69 := fun h => C69 hc h
 have k84 := fun u v w h => K84 (X := dX c) hc.h84 u v w h
 have heq := fk_eq x ⟨1, 0, 0⟩
 have h0 := hc.h38
 have hS : isFail m x = (if x.what == 1 then (x.what == 1 && x.num == 0 && x.hour == 0) else if x.what == 2 then inB x.num 0 (IntKind.i64.wrap (m.fans.length - 1)) && inB x.hour 0 (IntKind.i64.wrap (m.hours - 1)) else x.what == 3 && inB x.num 0 (IntKind.i64.wrap (m.rooms.length - 1)) && inB x.hour 0 (IntKind.i64.wrap (m.hours - 1))) := rfl
 rw [hS]
 clear hm hc hS
 simp only [fkC] at heq k69 ⊢
 cases h1 : x.what == 1 with
 | true =>
  rw [h1] at heq
  simp only [if_true]
  refine ClR.walk (c := _) h0 Tryz.func38 rfl (by kernel_rfl) rfl (fun e => by cases e) ?_
  simp only [entryEnv, Nat.reduceAdd, List.nil_append, List.cons_append, emptyHp]
  repeat' (first | (apply W.drawQ (id := 2) (l1 := [0, 1, 2, 3]) (l2 := []); kernel_rfl; kernel_rfl; kernel_rfl; exact Z4) | refine go1 ?_ | (apply U6; exact Z1; exact Z1; (focus (simp only [List.nil_append, List.append_nil]; first | exact k69 _)); simp only [pM, pN, rR, rP]) | refine go2 (fun hh => ?_) (fun hh => ?_) | fail)
  all_goals (simp only [resV_def (X := dX c) Tryz.func38, Tryz.results38]; first | exact J5 | refine J6 ?_)
  all_goals rfl
 | false =>
  simp only [Bool.false_eq_true, if_false]
  cases h2 : x.what == 2 with
  | true =>
   simp only [if_true]
   cases hb : inB x.num 0 (IntKind.i64.wrap (m.fans.length - 1)) <;> cases hb2 : inB x.hour 0 (IntKind.i64.wrap (m.hours - 1))
   all_goals
    have k1 := k84 x.num 0 (IntKind.i64.wrap (m.fans.length - 1))
    have k2 := k84 x.hour 0 (IntKind.i64.wrap (m.hours - 1))
    rw [hb] at k1
    rw [hb2] at k2
    refine ClR.walk (c := _) h0 Tryz.func38 rfl (by kernel_rfl) rfl (fun e => by cases e) ?_
    simp only [entryEnv, Nat.reduceAdd, List.nil_append, List.cons_append, emptyHp]
    repeat' (first | (apply W.drawQ (id := 2) (l1 := [0, 1, 2, 3]) (l2 := []); kernel_rfl; kernel_rfl; kernel_rfl; exact Z4) | refine go1 ?_ | (apply U6; exact Z1; exact Z1; (focus (simp only [List.nil_append, List.append_nil]; first | exact k1 _ | exact k2 _)); simp only [pM, pN, rR, rP]) | refine go2 (fun hh => ?_) (fun hh => ?_) | fail)
    all_goals (simp only [resV_def (X := dX c) Tryz.func38, Tryz.results38]; first | exact J5 | refine J6 ?_)
    all_goals rfl
  | false =>
   simp only [Bool.false_eq_true, if_false]
   cases h3 : x.what == 3 <;> cases hb : inB x.num 0 (IntKind.i64.wrap (m.rooms.length - 1)) <;> cases hb2 : inB x.hour 0 (IntKind.i64.wrap (m.hours - 1))
   all_goals
    have k1 := k84 x.num 0 (IntKind.i64.wrap (m.rooms.length - 1))
    have k2 := k84 x.hour 0 (IntKind.i64.wrap (m.hours - 1))
    rw [hb] at k1
    rw [hb2] at k2
    refine ClR.walk (c := _) h0 Tryz.func38 rfl (by kernel_rfl) rfl (fun e => by cases e) ?_
    simp only [entryEnv, Nat.reduceAdd, List.nil_append, List.cons_append, emptyHp]
    repeat' (first | (apply W.drawQ (id := 2) (l1 := [0, 1, 2, 3]) (l2 := []); kernel_rfl; kernel_rfl; kernel_rfl; exact Z4) | refine go1 ?_ | (apply U6; exact Z1; exact Z1; (focus (simp only [List.nil_append, List.append_nil]; first | exact k1 _ | exact k2 _)); simp only [pM, pN, rR, rP]) | refine go2 (fun hh => ?_) (fun hh => ?_) | fail)
    all_goals (simp only [resV_def (X := dX c) Tryz.func38, Tryz.results38]; first | exact J5 | refine J6 ?_)
    all_goals rfl
end
end Go.AM
