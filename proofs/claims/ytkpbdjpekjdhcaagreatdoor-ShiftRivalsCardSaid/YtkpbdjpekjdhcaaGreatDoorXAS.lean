/-
  A part of the proof: contracts of functions.
-/
import Derived.Test.YtkpbdjpekjdhcaaGreatDoorXAR
import Derived.Test.YtkpbdjpekjdhcaaGreatDoorXAJ
set_option linter.unusedSectionVars false
set_option linter.unusedVariables false
set_option linter.unusedSimpArgs false
set_option maxRecDepth 100000
namespace Go.AM
open Go Go.Proofs
variable [Keep]
attribute [local irreducible] W WO WO1 WD WQ WT thenQ blockQ endR isRet retK Cl ClR
open Go.TX (Rm Fa Ha Hs)
attribute [local irreducible] roundQ RdR hasB
structure HsA (m : Hs) (ra fa oa ha : AV) : Prop where
 r : slV rmC ra = some m.rooms
 f : slV faC fa = some m.fans
 o : slV intC oa = some m.op
 h : slV haC ha = some m.hands
theorem hs_parts' {x : AV} {m : Hs} (h : hsV x = some m) : ∃ ra fa oa ha, x = .agg [.int .i64 m.hours, ra, fa, oa, ha] /\ HsA m ra fa oa ha := by
 obtain ⟨a, b, c, d, e, v1, v2, v3, v4⟩ := hsV_is h
 exact ⟨a, b, c, d, e, v1, v2, v3, v4⟩
theorem HsA.hs {m : Hs} {ra fa oa ha : AV} (q : HsA m ra fa oa ha) : hsV (.agg [.int .i64 m.hours, ra, fa, oa, ha]) = some m := by
 simp only [hsV, q.r, q.f, q.o, q.h]
theorem HsA.pur {m : Hs} {ra fa oa ha : AV} (q : HsA m ra fa oa ha) : AV.pur (.agg [.int .i64 m.hours, ra, fa, oa, ha]) = true := by
 simp [AV.pur, AV.purL, sl_pur q.r, sl_pur q.f, sl_pur q.o, sl_pur q.h]
structure CxR (c : Itr) : Prop where
 h84 : c 84 = some (pureFn sp84)
 h85 : c 85 = some (pureFn sp85)
 h75 : c 75 = none
 h109 : c 109 = none
 h39 : c 39 = none
 h38 : c 38 = none
 h69 : c 69 = none
 h128 : c 128 = none
theorem has_all : ((List.range 16).all fun s => (List.range 6).all fun n => (((IntKind.i64.wrap ((s : Int).tdiv (2 ^ n))).tmod 2) == 1) == hasB s n) = true := by kernel_rfl
theorem has_same {s : Int} {n : Nat} (hs : 0 <= s /\ s < 16) (hn : n < 6) : (((IntKind.i64.wrap (s.tdiv (2 ^ n))).tmod 2) == 1) = hasB s n := by
 have h := has_all
 rw [List.all_eq_true] at h
 have h1 := h s.toNat (List.mem_range.2 (by omega))
 rw [List.all_eq_true] at h1
 have h2 := h1 n (List.mem_range.2 hn)
 have e : ((s.toNat : Nat) : Int) = s := by omega
 rw [e] at h2
 exact beq_iff_eq.1 h2
section
variable {c : Itr}
theorem C75 (hc : CxR c) (s : Int) (n : Nat) (hs : 0 <= s /\ s < 16) (hn : n < 6) (h : Heap) : Cl (dX c) 75 [.int .i64 s, .int .i64 (n : Int)] h (.ret (.bool (hasB s n)) h none) := by
 refine ClR.cl ?_
 have k85 := fun h => K85 (X := dX c) hc.h85 n (by omega) h
 have hr := has_same hs hn
 have hd : ((2 : Int) ^ n) ≠ 0 := by have : (0 : Int) < 2 ^ n := Int.pow_pos (by decide); omega
 have h0 := hc.h75
 rw [<- hr]
 clear hr hc
 generalize (2 : Int) ^ n = d at *
 have hq : intOp .quo .i64 s d = some (.int .i64 (IntKind.i64.wrap (s.tdiv d))) := by simp only [intOp, if_neg hd]
 have hr : ∀ a : Int, intOp .rem .i64 a 2 = some (.int .i64 (a.tmod 2)) := fun a => rfl
 clear hd
 refine ClR.walk (c := _) h0 Tryz.func75 rfl (by kernel_rfl) rfl (fun e => by cases e) ?_
 try simp only [entryEnv, Nat.reduceAdd, List.nil_append, List.cons_append, emptyHp]
 repeat' (first | refine goS ?_ | (apply U6; exact Z1; exact Z1; (exact k85 _); simp only [pM, pN, rR, rP]) | (refine go2 ?_ ?_ <;> intro hh) | fail)
 all_goals (simp only [resV_def (X := dX c) Tryz.func75, Tryz.results75]; first | exact J5 | refine J6 ?_)
 all_goals rfl
end
end Go.AM
namespace Go.AM
open Go Go.Proofs
variable [Keep]
attribute [local irreducible] W WO WO1 WD WQ WT thenQ blockQ endR isRet retK Cl ClR
open Go.TX (Rm Fa Ha Hs)
attribute [local irreducible] runsB madeR madeF
theorem ho_parts {m : Hs} (ho : HOk m) : ∃ nn : Nat, m.hours = nn /\ m.hours.toNat = nn /\ 1 <= nn /\ nn <= 4 /\ m.op.length = nn := by
 have h1 := ho.hours
 have h2 := ho.op
 exact ⟨m.hours.toNat, by omega, rfl, by omega, by omega, by omega⟩
theorem ho_walk {m : Hs} (ho : HOk m) : walkB m = true := by
 obtain ⟨nn, h1, h2, h3, h4, h5⟩ := ho_parts ho
 have h6 := ho.rooms
 have h7 := ho.fans
 unfold walkB
 simp only [Bool.and_eq_true, decide_eq_true_eq]
 omega
section
variable {c : Itr}
end
end Go.AM
