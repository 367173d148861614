/-
  A part of the proof: contracts of functions.
-/
import Derived.Test.YtkpbdjpekjdhcaaGreatDoorSAQ
import Derived.Test.YtkpbdjpekjdhcaaGreatDoorSAR
import Derived.Test.YtkpbdjpekjdhcaaGreatDoorSAI
import Derived.Test.YtkpbdjpekjdhcaaGreatDoorSAF
set_option linter.unusedSectionVars false
set_option linter.unusedVariables false
set_option linter.unusedSimpArgs false
set_option maxRecDepth 100000
namespace Go.AM
open Go Go.Proofs
variable [Keep]
attribute [local irreducible] W WO WO1 WD WQ WT thenQ blockQ endR isRet retK Cl ClR
open Go.TX (Rm Fa Ha Hs)
def slLen : AV → Option Nat
  | .nilslice => some 0
  | .vempty => some 0
  | .vslice l => some l.length
  | _ => none
theorem slLen_is {a : AV} {n : Nat} (h : slLen a = some n) : lenS a = some n ∧ outV (some a) = some a ∧ isTuple a = false := by
  unfold slLen at h
  split at h <;> cases h <;> exact ⟨rfl, rfl, rfl⟩
theorem slLen_mk {a : AV} {es : List AV} (h : isSl a es) : slLen a = some es.length := by rcases h with ⟨rfl | rfl, rfl⟩ | rfl <;> rfl
def sp21S : List AV → Option AV
  | [.agg [.int .i64 _, ra, fa, oa, ha]] => match slLen ra, slLen fa, slLen oa, slLen ha with
    | some a, some b, some c, some d => some (.bool (decide ((a : Int) ≤ 5) && decide ((b : Int) ≤ 7) && decide ((c : Int) ≤ 6) && decide ((d : Int) ≤ 6)))
    | _, _, _, _ => none
  | _ => none
theorem F21S : IntrFn Tryz.prog 21 (pureFn sp21S) := by
  refine pure_fn (X := dX i0) i0_sound ?_ ?_
  · intro args v h
    unfold sp21S at h
    split at h
    · split at h
      · cases h; rfl
      · cases h
    · cases h
  intro args v h
  unfold sp21S at h
  split at h
  · rename_i n ra fa oa ha
    split at h
    · rename_i a b c d v1 v2 v3 v4
      have h := Option.some.inj h
      obtain ⟨l1, o1, _⟩ := slLen_is v1
      obtain ⟨l2, o2, _⟩ := slLen_is v2
      obtain ⟨l3, o3, _⟩ := slLen_is v3
      obtain ⟨l4, o4, _⟩ := slLen_is v4
      subst h
      obtain ⟨r, hr⟩ : ∃ r, r = (decide ((a : Int) ≤ 5) && decide ((b : Int) ≤ 7) && decide ((c : Int) ≤ 6) && decide ((d : Int) ≤ 6)) := ⟨_, rfl⟩
      rw [← hr]
      have hS := Lib.hid hr
      clear v1 v2 v3 v4 hr
      refine ClR.walk (c := _) rfl Tryz.func21 rfl (by kernel_rfl) rfl isRet_fail ?_
      simp only [entryEnv, Nat.reduceAdd, emptyHp]
      repeat' (first | refine goS ?_ | refine go2 (fun hh => ?_) (fun hh => ?_) | fail)
      all_goals simp only [resV_def (X := dX i0) Tryz.func21, Tryz.results21, resultsV, resultV, go_sem, *, Nat.reduceLT, Int.reduceEq, Int.reduceBEq, Int.reduceLE, Int.reduceLT, Nat.reduceAdd, Nat.reduceBEq, Nat.reduceEqDiff, reduceIte, Nat.reduceLeDiff, Nat.reduceMul, Nat.reduceSub, reduceCtorEq, frzRes, dFrz, frzCells, isRet_ret, tupleOf]
      all_goals (rw [hS.out]; clear hS; first | (simp_all; done) | (simp_all; intros; omega))
    · cases h
  · cases h
theorem K22 {X : Ctx} (hX : X.intr 22 = some (pureFn sp22)) (h : Heap) : Cl X 22 [] h (.ret (.bool true) h none) := Cl.intr hX (by simp [pureFn, AV.purL, sp22])
end Go.AM
set_option linter.unusedSimpArgs false
set_option linter.unusedVariables false
set_option linter.unusedSectionVars false
set_option maxRecDepth 100000
namespace Go.AM
open Go Go.Proofs
open Go.TX (Rm Fa Ha Hs)
variable [Keep]
theorem ClR.gives {X : Ctx} {f : FuncId} {args : List AV} {h : Heap} {v : AV} (c : ClR X f args h (isRet v)) : ∃ h', Cl X f args h (.ret v h' none) := by
  unfold ClR at c
  obtain ⟨r, ⟨n, hn⟩, q⟩ := c
  cases r with
  | ret u h' up =>
    cases up with
    | none => rw [isRet_ret] at q; subst q; exact ⟨h', n, hn⟩
    | some p => exact absurd q (by simp [isRet])
  | pan u h' up => exact absurd q (by simp [isRet])
  | fail => exact absurd q (by simp [isRet])
theorem Sh.i64 {n : Nat} {xs : List AV} (h : Sh Tryz.prog (n + 1) 3 xs) : ∃ i, xs = [.int .i64 i] := by
  obtain ⟨i, h, _⟩ := Sh.int Tryz.underlying3 h
  exact ⟨i, h⟩
theorem Sh.txt {n : Nat} {xs : List AV} (h : Sh Tryz.prog (n + 1) 9 xs) : ∃ s, xs = [.str s] := by
  unfold Sh at h
  rw [Tryz.underlying9] at h
  obtain ⟨s, h, _⟩ := h
  exact ⟨s, h⟩
theorem ag3 : isAggT Tryz.prog 3 = false := by simp [isAggT, Tryz.underlying3]
theorem ag9 : isAggT Tryz.prog 9 = false := by simp [isAggT, Tryz.underlying9]
theorem ag27 : isAggT Tryz.prog 27 = true := by simp [isAggT, Tryz.underlying27]
theorem ag136 : isAggT Tryz.prog 136 = true := by simp [isAggT, Tryz.underlying136]
theorem ag103 : isAggT Tryz.prog 103 = true := by simp [isAggT, Tryz.underlying103]
theorem ag106 : isAggT Tryz.prog 106 = true := by simp [isAggT, Tryz.underlying106]
theorem Sh.ints {n : Nat} {xs : List AV} (h : Sh Tryz.prog (n + 2) 24 xs) : ∃ (a : AV) (l : List Int), xs = [a] ∧ isSl a (l.map intC.enc) :=
  Sh.slice intC Tryz.underlying24 (fun xs h => by
    obtain ⟨i, rfl⟩ := Sh.i64 h
    exact ⟨i, by rw [ag3]; rfl⟩) h
theorem Sh.span {n : Nat} {xs : List AV} (h : Sh Tryz.prog (n + 2) 56 xs) : ∃ p q : Int, xs = [.int .i64 p, .int .i64 q] := by
  obtain ⟨x1, y1, rfl, h1, x2, y2, rfl, h2, rfl⟩ := Sh.struct Tryz.underlying56 h
  obtain ⟨a, rfl⟩ := Sh.i64 h1
  obtain ⟨b, rfl⟩ := Sh.i64 h2
  exact ⟨a, b, rfl⟩
theorem Sh.rm {n : Nat} {xs : List AV} (h : Sh Tryz.prog (n + 3) 136 xs) : ∃ p : Rm, xs = [.int .i64 p.lo, .int .i64 p.hi, .int .i64 p.mke, .int .i64 p.wt, .int .i64 p.stt] := by
  obtain ⟨x1, y1, rfl, h1, x2, y2, rfl, h2, x3, y3, rfl, h3, x4, y4, rfl, h4, rfl⟩ := Sh.struct Tryz.underlying136 h
  obtain ⟨p, q, rfl⟩ := Sh.span h1
  obtain ⟨b, rfl⟩ := Sh.i64 h2
  obtain ⟨c, rfl⟩ := Sh.i64 h3
  obtain ⟨d, rfl⟩ := Sh.i64 h4
  exact ⟨⟨p, q, b, c, d⟩, rfl⟩
theorem Sh.fa {n : Nat} {xs : List AV} (h : Sh Tryz.prog (n + 2) 103 xs) : ∃ p : Fa, xs = [.int .i64 p.room, .int .i64 p.draws] := by
  obtain ⟨x1, y1, rfl, h1, x2, y2, rfl, h2, rfl⟩ := Sh.struct Tryz.underlying103 h
  obtain ⟨a, rfl⟩ := Sh.i64 h1
  obtain ⟨b, rfl⟩ := Sh.i64 h2
  exact ⟨⟨a, b⟩, rfl⟩
theorem Sh.ha {n : Nat} {xs : List AV} (h : Sh Tryz.prog (n + 2) 106 xs) : ∃ p : Ha, xs = [.int .i64 p.limit, .int .i64 p.most] := by
  obtain ⟨x1, y1, rfl, h1, x2, y2, rfl, h2, rfl⟩ := Sh.struct Tryz.underlying106 h
  obtain ⟨a, rfl⟩ := Sh.i64 h1
  obtain ⟨b, rfl⟩ := Sh.i64 h2
  exact ⟨⟨a, b⟩, rfl⟩
theorem Sh.rms {n : Nat} {xs : List AV} (h : Sh Tryz.prog (n + 4) 22 xs) : ∃ (a : AV) (l : List Rm), xs = [a] ∧ isSl a (l.map rmC.enc) :=
  Sh.slice rmC Tryz.underlying22 (fun xs h => by
    obtain ⟨p, rfl⟩ := Sh.rm h
    exact ⟨p, by rw [ag136]; rfl⟩) h
theorem Sh.fas {n : Nat} {xs : List AV} (h : Sh Tryz.prog (n + 3) 23 xs) : ∃ (a : AV) (l : List Fa), xs = [a] ∧ isSl a (l.map faC.enc) :=
  Sh.slice faC Tryz.underlying23 (fun xs h => by
    obtain ⟨p, rfl⟩ := Sh.fa h
    exact ⟨p, by rw [ag103]; rfl⟩) h
theorem Sh.has {n : Nat} {xs : List AV} (h : Sh Tryz.prog (n + 3) 25 xs) : ∃ (a : AV) (l : List Ha), xs = [a] ∧ isSl a (l.map haC.enc) :=
  Sh.slice haC Tryz.underlying25 (fun xs h => by
    obtain ⟨p, rfl⟩ := Sh.ha h
    exact ⟨p, by rw [ag106]; rfl⟩) h
theorem Sh.house {n : Nat} {xs : List AV} (h : Sh Tryz.prog (n + 5) 27 xs) : ∃ (ra fa oa ha : AV) (m : Hs), xs = [.int .i64 m.hours, ra, fa, oa, ha] ∧ isSl ra (m.rooms.map rmC.enc) ∧ isSl fa (m.fans.map faC.enc) ∧ isSl oa (m.op.map intC.enc) ∧ isSl ha (m.hands.map haC.enc) := by
  obtain ⟨x1, y1, rfl, h1, x2, y2, rfl, h2, x3, y3, rfl, h3, x4, y4, rfl, h4, x5, y5, rfl, h5, rfl⟩ := Sh.struct Tryz.underlying27 h
  obtain ⟨a, rfl⟩ := Sh.i64 h1
  obtain ⟨ra, rs, rfl, q1⟩ := Sh.rms h2
  obtain ⟨fa, fs, rfl, q2⟩ := Sh.fas h3
  obtain ⟨oa, os, rfl, q3⟩ := Sh.ints h4
  obtain ⟨ha, hs, rfl, q4⟩ := Sh.has h5
  exact ⟨ra, fa, oa, ha, ⟨a, rs, fs, os, hs⟩, rfl, q1, q2, q3, q4⟩
end Go.AM
