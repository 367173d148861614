/-
  A part of the proof: contracts of functions.
-/
import Derived.Test.YtkpbdjpekjdhcaaGreatDoorXAR
import Derived.Test.YtkpbdjpekjdhcaaGreatDoorXAJ
set_option linter.unusedSectionVars false
set_option linter.unusedVariables false
set_option linter.unusedSimpArgs false
set_option maxRecDepth 100000
namespace Go.AM
open Go Go.Proofs
variable [Keep]
attribute [local irreducible] W WO WO1 WD WQ WT thenQ blockQ endR isRet retK Cl ClR
open Go.TX (Rm Fa Ha Hs)
attribute [local irreducible] roundQ RdR hasB
structure HsA (m : Hs) (ra fa oa ha : AV) : Prop where
 r : slV rmC ra = some m.rooms
 f : slV faC fa = some m.fans
 o : slV intC oa = some m.op
 h : slV haC ha = some m.hands
theorem hs_parts' {x : AV} {m : Hs} (h : hsV x = some m) : ∃ ra fa oa ha, x = .agg [.int .i64 m.hours, ra, fa, oa, ha] /\ HsA m ra fa oa ha := by
 obtain ⟨a, b, c, d, e, v1, v2, v3, v4⟩ := hsV_is h
 exact ⟨a, b, c, d, e, v1, v2, v3, v4⟩
theorem HsA.hs {m : Hs} {ra fa oa ha : AV} (q : HsA m ra fa oa ha) : hsV (.agg [.int .i64 m.hours, ra, fa, oa, ha]) = some m := by
 simp only [hsV, q.r, q.f, q.o, q.h]
theorem HsA.pur {m : Hs} {ra fa oa ha : AV} (q : HsA m ra fa oa ha) : AV.pur (.agg [.int .i64 m.hours, ra, fa, oa, ha]) = true := by
 simp [AV.pur, AV.purL, sl_pur q.r, sl_pur q.f, sl_pur q.o, sl_pur q.h]
structure CxR (c : Itr) : Prop where
 h84 : c 84 = some (pureFn sp84)
 h85 : c 85 = some (pureFn sp85)
 h75 : c 75 = none
 h109 : c 109 = none
 h39 : c 39 = none
 h38 : c 38 = none
 h69 : c 69 = none
 h128 : c 128 = none
theorem has_all : ((List.range 16).all fun s => (List.range 6).all fun n => (((IntKind.i64.wrap ((s : Int).tdiv (2 ^ n))).tmod 2) == 1) == hasB s n) = true := by kernel_rfl
theorem has_same {s : Int} {n : Nat} (hs : 0 <= s /\ s < 16) (hn : n < 6) : (((IntKind.i64.wrap (s.tdiv (2 ^ n))).tmod 2) == 1) = hasB s n := by
 have h := has_all
 rw [List.all_eq_true] at h
 have h1 := h s.toNat (List.mem_range.2 (by omega))
 rw [List.all_eq_true] at h1
 have h2 := h1 n (List.mem_range.2 hn)
 have e : ((s.toNat : Nat) : Int) = s := by omega
 rw [e] at h2
 exact beq_iff_eq.1 h2
section
variable {c : Itr}
theorem C75 (hc : CxR c) (s : Int) (n : Nat) (hs : 0 <= s /\ s < 16) (hn : n < 6) (h : Heap) : Cl (dX c) 75 [.int .i64 s, .int .i64 (n : Int)] h (.ret (.bool (hasB s n)) h none) := by
 refine ClR.cl ?_
 have k85 := fun h => K85 (X := dX c) hc.h85 n (by omega) h
 have hr := has_same hs hn
 have hd : ((2 : Int) ^ n) ≠ 0 := by have : (0 : Int) < 2 ^ n := Int.pow_pos (by decide); omega
 have h0 := hc.h75
 rw [<- hr]
 clear hr hc
 generalize (2 : Int) ^ n = d at *
 have hq : intOp .quo .i64 s d = some (.int .i64 (IntKind.i64.wrap (s.tdiv d))) := by simp only [intOp, if_neg hd]
 have hr : ∀ a : Int, intOp .rem .i64 a 2 = some (.int .i64 (a.tmod 2)) := fun a => rfl
 clear hd
 refine ClR.walk (c := _) h0 Tryz.func75 rfl (by kernel_rfl) rfl (fun e => by cases e) ?_
 try simp only [entryEnv, Nat.reduceAdd, List.nil_append, List.cons_append, emptyHp]
 repeat' (first | refine goS ?_ | (apply U6; exact Z1; exact Z1; (exact k85 _); simp only [pM, pN, rR, rP]) | (refine go2 ?_ ?_ <;> intro hh) | fail)
 all_goals (simp only [resV_def (X := dX c) Tryz.func75, Tryz.results75]; first | exact J5 | refine J6 ?_)
 all_goals rfl
theorem C69 (hc : CxR c) (h : Heap) : Cl (dX c) 69 [] h (.ret (fkC.enc ⟨1, 0, 0⟩) h none) := by
 refine ClR.cl ?_
 have h0 := hc.h69
 refine ClR.walk (c := _) h0 Tryz.func69 rfl (by kernel_rfl) rfl (fun e => by cases e) ?_
 try simp only [entryEnv, Nat.reduceAdd, List.nil_append, List.cons_append, emptyHp]
 repeat' (first | refine goS ?_ | (refine go2 ?_ ?_ <;> intro hh) | fail)
 all_goals (simp only [resV_def (X := dX c) Tryz.func69, Tryz.results69]; first | exact J5 | refine J6 ?_)
 all_goals rfl
set_option maxHeartbeats 2000000 in
theorem C109 (hc : CxR c) (m : Hs) (f : Fl) (ra fa oa ha : AV) (hm : HsA m ra fa oa ha) (r k : Nat) (hrl : r < m.rooms.length) (hkl : k < m.op.length) (hset : ∀ x ∈ m.op, 0 <= x /\ x < 16) (hr6 : m.rooms.length <= 6) (h : Heap) :
  Cl (dX c) 109 [.agg [.int .i64 m.hours, ra, fa, oa, ha], fkC.enc f.tell, .int .i64 (r : Int), .int .i64 (k : Int)] h (.ret (.bool (runsB m f r k)) h none) := by
 refine ClR.cl ?_
 obtain ⟨p, hp⟩ := get_some hrl
 obtain ⟨s, hs⟩ := get_some hkl
 have hgp : m.rooms.getD r rm0 = p := by simp [List.getD, hp]
 have hgs : m.op.getD k 0 = s := by simp [List.getD, hs]
 have hR : runsB m f r k = (hasB s r && !standsB f p.wt r k) := by unfold runsB; rw [hgp, hgs]
 rw [hR]
 have hix := fun H => ints_idx hm.o hs H
 have hix2 := fun H => rms_idx hm.r hp H
 have o1 := sl_out hm.r
 have o2 := sl_out hm.f
 have o3 := sl_out hm.o
 have o4 := sl_out hm.h
 have k75 := fun h => C75 hc s r (hset s (List.mem_of_getElem? hs)) (by omega) h
 have k84 := fun u v w h => K84 (X := dX c) hc.h84 u v w h
 have h0 := hc.h109
 have e33 : ((3 : Int) == 3) = true := rfl
 have e13 : ((1 : Int) == 3) = false := rfl
 have e23 : ((2 : Int) == 3) = false := rfl
 generalize hasB s r = hb at *
 clear hp hs hgp hgs hR hset hc hm
 cases f with
 | no =>
  simp only [fkC, Fl.tell, standsB, Bool.not_false, Bool.and_true]
  cases hb with
  | false =>
   refine ClR.walk (c := _) h0 Tryz.func109 rfl (by kernel_rfl) rfl (fun e => by cases e) ?_
   try simp only [entryEnv, Nat.reduceAdd, List.nil_append, List.cons_append, emptyHp]
   repeat' (first | (apply W.drawQ (id := 1) (l1 := [0, 1, 2, 3, 4, 5, 6, 7, 8, 9, 10, 11, 12, 13, 14, 15, 16, 17, 18, 19, 20, 21, 22, 23, 24, 25]) (l2 := []); kernel_rfl; kernel_rfl; kernel_rfl; exact Z4) | refine go1 ?_ | (apply U6; exact Z1; exact Z1; (focus (first | exact k75 _ | exact k84 _ _ _ _)); simp only [pM, pN, rR, rP]) | (refine go2 ?_ ?_ <;> intro hh) | fail)
   all_goals (simp only [resV_def (X := dX c) Tryz.func109, Tryz.results109]; first | exact J5 | refine J6 ?_)
   all_goals rfl
  | true =>
   refine ClR.walk (c := _) h0 Tryz.func109 rfl (by kernel_rfl) rfl (fun e => by cases e) ?_
   try simp only [entryEnv, Nat.reduceAdd, List.nil_append, List.cons_append, emptyHp]
   repeat' (first | (apply W.drawQ (id := 1) (l1 := [0, 1, 2, 3, 4, 5, 6, 7, 8, 9, 10, 11, 12, 13, 14, 15, 16, 17, 18, 19, 20, 21, 22, 23, 24, 25]) (l2 := []); kernel_rfl; kernel_rfl; kernel_rfl; exact Z4) | refine go1 ?_ | (apply U6; exact Z1; exact Z1; (focus (first | exact k75 _ | exact k84 _ _ _ _)); simp only [pM, pN, rR, rP]) | (refine go2 ?_ ?_ <;> intro hh) | fail)
   all_goals (simp only [resV_def (X := dX c) Tryz.func109, Tryz.results109]; first | exact J5 | refine J6 ?_)
   all_goals rfl
 | fan x y =>
  simp only [fkC, Fl.tell, standsB, Bool.not_false, Bool.and_true]
  cases hb with
  | false =>
   refine ClR.walk (c := _) h0 Tryz.func109 rfl (by kernel_rfl) rfl (fun e => by cases e) ?_
   try simp only [entryEnv, Nat.reduceAdd, List.nil_append, List.cons_append, emptyHp]
   repeat' (first | (apply W.drawQ (id := 1) (l1 := [0, 1, 2, 3, 4, 5, 6, 7, 8, 9, 10, 11, 12, 13, 14, 15, 16, 17, 18, 19, 20, 21, 22, 23, 24, 25]) (l2 := []); kernel_rfl; kernel_rfl; kernel_rfl; exact Z4) | refine go1 ?_ | (apply U6; exact Z1; exact Z1; (focus (first | exact k75 _ | exact k84 _ _ _ _)); simp only [pM, pN, rR, rP]) | (refine go2 ?_ ?_ <;> intro hh) | fail)
   all_goals (simp only [resV_def (X := dX c) Tryz.func109, Tryz.results109]; first | exact J5 | refine J6 ?_)
   all_goals rfl
  | true =>
   refine ClR.walk (c := _) h0 Tryz.func109 rfl (by kernel_rfl) rfl (fun e => by cases e) ?_
   try simp only [entryEnv, Nat.reduceAdd, List.nil_append, List.cons_append, emptyHp]
   repeat' (first | (apply W.drawQ (id := 1) (l1 := [0, 1, 2, 3, 4, 5, 6, 7, 8, 9, 10, 11, 12, 13, 14, 15, 16, 17, 18, 19, 20, 21, 22, 23, 24, 25]) (l2 := []); kernel_rfl; kernel_rfl; kernel_rfl; exact Z4) | refine go1 ?_ | (apply U6; exact Z1; exact Z1; (focus (first | exact k75 _ | exact k84 _ _ _ _)); simp only [pM, pN, rR, rP]) | (refine go2 ?_ ?_ <;> intro hh) | fail)
   all_goals (simp only [resV_def (X := dX c) Tryz.func109, Tryz.results109]; first | exact J5 | refine J6 ?_)
   all_goals rfl
 | mach x y =>
  simp only [fkC, Fl.tell, standsB]
  have hsw : ((r : Int) == x) = (x == (r : Int)) := by rw [Bool.eq_iff_iff]; simp only [beq_iff_eq]; exact ⟨Eq.symm, Eq.symm⟩
  rw [hsw]
  have hw : inB (k : Int) y (w64 (w64 (y + p.wt) - 1)) = inB (k : Int) y (IntKind.i64.wrap (IntKind.i64.wrap (y + p.wt) - 1)) := rfl
  rw [hw]
  have kx := fun h => k84 k y (IntKind.i64.wrap (IntKind.i64.wrap (y + p.wt) - 1)) h
  cases hx : (x == (r : Int)) <;> cases hb <;> cases hbi : inB (k : Int) y (IntKind.i64.wrap (IntKind.i64.wrap (y + p.wt) - 1))
  all_goals
   rw [hbi] at kx
   refine ClR.walk (c := _) h0 Tryz.func109 rfl (by kernel_rfl) rfl (fun e => by cases e) ?_
   try simp only [entryEnv, Nat.reduceAdd, List.nil_append, List.cons_append, emptyHp]
   repeat' (first | (apply W.drawQ (id := 1) (l1 := [0, 1, 2, 3, 4, 5, 6, 7, 8, 9, 10, 11, 12, 13, 14, 15, 16, 17, 18, 19, 20, 21, 22, 23, 24, 25]) (l2 := []); kernel_rfl; kernel_rfl; kernel_rfl; exact Z4) | refine go1 ?_ | (apply U6; exact Z1; exact Z1; (focus (first | exact k75 _ | exact kx _)); simp only [pM, pN, rR, rP]) | (refine go2 ?_ ?_ <;> intro hh) | fail)
   all_goals (simp only [resV_def (X := dX c) Tryz.func109, Tryz.results109]; first | exact J5 | refine J6 ?_)
   all_goals rfl
end
end Go.AM
namespace Go.AM
open Go Go.Proofs
variable [Keep]
attribute [local irreducible] W WO WO1 WD WQ WT thenQ blockQ endR isRet retK Cl ClR
open Go.TX (Rm Fa Ha Hs)
attribute [local irreducible] runsB madeR madeF
theorem ho_parts {m : Hs} (ho : HOk m) : ∃ nn : Nat, m.hours = nn /\ m.hours.toNat = nn /\ 1 <= nn /\ nn <= 4 /\ m.op.length = nn := by
 have h1 := ho.hours
 have h2 := ho.op
 exact ⟨m.hours.toNat, by omega, rfl, by omega, by omega, by omega⟩
theorem ho_set {m : Hs} (ho : HOk m) : ∀ x ∈ m.op, 0 <= x /\ x < 16 := by
 intro x hx
 have h1 := ho.set x hx
 have h2 := ho.rooms
 have : m.rooms.length = 1 \/ m.rooms.length = 2 \/ m.rooms.length = 3 := by omega
 rcases this with q | q | q <;> rw [q] at h1 <;> omega
theorem ho_walk {m : Hs} (ho : HOk m) : walkB m = true := by
 obtain ⟨nn, h1, h2, h3, h4, h5⟩ := ho_parts ho
 have h6 := ho.rooms
 have h7 := ho.fans
 unfold walkB
 simp only [Bool.and_eq_true, decide_eq_true_eq]
 omega
section
variable {c : Itr}
def isFail (m : Hs) (x : Fk) : Bool :=
 if x.what == 1 then (x.what == 1 && x.num == 0 && x.hour == 0) else if x.what == 2 then inB x.num 0 (w64 (m.fans.length - 1)) && inB x.hour 0 (w64 (m.hours - 1)) else x.what == 3 && inB x.num 0 (w64 (m.rooms.length - 1)) && inB x.hour 0 (w64 (m.hours - 1))
end
end Go.AM
