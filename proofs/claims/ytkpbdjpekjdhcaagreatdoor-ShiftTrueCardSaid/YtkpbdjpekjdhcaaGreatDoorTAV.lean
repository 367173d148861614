/-
  A part of the proof: contracts of functions.
-/
import Derived.Test.YtkpbdjpekjdhcaaGreatDoorTAF
import Derived.Test.YtkpbdjpekjdhcaaGreatDoorTAU
import Derived.Test.YtkpbdjpekjdhcaaGreatDoorTAD
set_option linter.unusedSimpArgs false
set_option linter.unusedVariables false
set_option linter.unusedSectionVars false
set_option maxRecDepth 100000
namespace Go.AM
open Go Go.Proofs
open Go.TX (Rm Fa Ha Hs)
variable [Keep]
theorem ClR.gives {X : Ctx} {f : FuncId} {args : List AV} {h : Heap} {v : AV} (c : ClR X f args h (isRet v)) : ∃ h', Cl X f args h (.ret v h' none) := by
 unfold ClR at c
 obtain ⟨r, ⟨n, hn⟩, q⟩ := c
 cases r with
 | ret u h' up =>
  cases up with
  | none => rw [isRet_ret] at q; subst q; exact ⟨h', n, hn⟩
  | some p => exact absurd q (by simp [isRet])
 | pan u h' up => exact absurd q (by simp [isRet])
 | fail => exact absurd q (by simp [isRet])
theorem Sh.i64 {n : Nat} {xs : List AV} (h : Sh Tryz.prog (n + 1) 3 xs) : ∃ i, xs = [.int .i64 i] := by
 obtain ⟨i, h, _⟩ := Sh.int Tryz.underlying3 h
 exact ⟨i, h⟩
theorem ag3 : isAggT Tryz.prog 3 = false := by simp [isAggT, Tryz.underlying3]
theorem ag24 : isAggT Tryz.prog 24 = false := by simp [isAggT, Tryz.underlying24]
theorem ag27 : isAggT Tryz.prog 27 = true := by simp [isAggT, Tryz.underlying27]
theorem ag136 : isAggT Tryz.prog 136 = true := by simp [isAggT, Tryz.underlying136]
theorem ag103 : isAggT Tryz.prog 103 = true := by simp [isAggT, Tryz.underlying103]
theorem ag106 : isAggT Tryz.prog 106 = true := by simp [isAggT, Tryz.underlying106]
theorem Sh.ints {n : Nat} {xs : List AV} (h : Sh Tryz.prog (n + 2) 24 xs) : ∃ (a : AV) (l : List Int), xs = [a] ∧ isSl a (l.map intC.enc) :=
 Sh.slice intC Tryz.underlying24 (fun xs h => by
  obtain ⟨i, rfl⟩ := Sh.i64 h
  exact ⟨i, by rw [ag3]; rfl⟩) h
theorem Sh.span {n : Nat} {xs : List AV} (h : Sh Tryz.prog (n + 2) 56 xs) : ∃ p q : Int, xs = [.int .i64 p, .int .i64 q] := by
 obtain ⟨x1, y1, rfl, h1, x2, y2, rfl, h2, rfl⟩ := Sh.struct Tryz.underlying56 h
 obtain ⟨a, rfl⟩ := Sh.i64 h1
 obtain ⟨b, rfl⟩ := Sh.i64 h2
 exact ⟨a, b, rfl⟩
theorem Sh.rm {n : Nat} {xs : List AV} (h : Sh Tryz.prog (n + 3) 136 xs) : ∃ p : Rm, xs = [.int .i64 p.lo, .int .i64 p.hi, .int .i64 p.mke, .int .i64 p.wt, .int .i64 p.stt] := by
 obtain ⟨x1, y1, rfl, h1, x2, y2, rfl, h2, x3, y3, rfl, h3, x4, y4, rfl, h4, rfl⟩ := Sh.struct Tryz.underlying136 h
 obtain ⟨p, q, rfl⟩ := Sh.span h1
 obtain ⟨b, rfl⟩ := Sh.i64 h2
 obtain ⟨c, rfl⟩ := Sh.i64 h3
 obtain ⟨d, rfl⟩ := Sh.i64 h4
 exact ⟨⟨p, q, b, c, d⟩, rfl⟩
theorem Sh.fa {n : Nat} {xs : List AV} (h : Sh Tryz.prog (n + 2) 103 xs) : ∃ p : Fa, xs = [.int .i64 p.room, .int .i64 p.draws] := by
 obtain ⟨x1, y1, rfl, h1, x2, y2, rfl, h2, rfl⟩ := Sh.struct Tryz.underlying103 h
 obtain ⟨a, rfl⟩ := Sh.i64 h1
 obtain ⟨b, rfl⟩ := Sh.i64 h2
 exact ⟨⟨a, b⟩, rfl⟩
theorem Sh.ha {n : Nat} {xs : List AV} (h : Sh Tryz.prog (n + 2) 106 xs) : ∃ p : Ha, xs = [.int .i64 p.limit, .int .i64 p.most] := by
 obtain ⟨x1, y1, rfl, h1, x2, y2, rfl, h2, rfl⟩ := Sh.struct Tryz.underlying106 h
 obtain ⟨a, rfl⟩ := Sh.i64 h1
 obtain ⟨b, rfl⟩ := Sh.i64 h2
 exact ⟨⟨a, b⟩, rfl⟩
theorem Sh.rms {n : Nat} {xs : List AV} (h : Sh Tryz.prog (n + 4) 22 xs) : ∃ (a : AV) (l : List Rm), xs = [a] ∧ isSl a (l.map rmC.enc) :=
 Sh.slice rmC Tryz.underlying22 (fun xs h => by
  obtain ⟨p, rfl⟩ := Sh.rm h
  exact ⟨p, by rw [ag136]; rfl⟩) h
theorem Sh.fas {n : Nat} {xs : List AV} (h : Sh Tryz.prog (n + 3) 23 xs) : ∃ (a : AV) (l : List Fa), xs = [a] ∧ isSl a (l.map faC.enc) :=
 Sh.slice faC Tryz.underlying23 (fun xs h => by
  obtain ⟨p, rfl⟩ := Sh.fa h
  exact ⟨p, by rw [ag103]; rfl⟩) h
theorem Sh.has {n : Nat} {xs : List AV} (h : Sh Tryz.prog (n + 3) 25 xs) : ∃ (a : AV) (l : List Ha), xs = [a] ∧ isSl a (l.map haC.enc) :=
 Sh.slice haC Tryz.underlying25 (fun xs h => by
  obtain ⟨p, rfl⟩ := Sh.ha h
  exact ⟨p, by rw [ag106]; rfl⟩) h
theorem Sh.house {n : Nat} {xs : List AV} (h : Sh Tryz.prog (n + 5) 27 xs) : ∃ (ra fa oa ha : AV) (m : Hs), xs = [.int .i64 m.hours, ra, fa, oa, ha] ∧ isSl ra (m.rooms.map rmC.enc) ∧ isSl fa (m.fans.map faC.enc) ∧ isSl oa (m.op.map intC.enc) ∧ isSl ha (m.hands.map haC.enc) := by
 obtain ⟨x1, y1, rfl, h1, x2, y2, rfl, h2, x3, y3, rfl, h3, x4, y4, rfl, h4, x5, y5, rfl, h5, rfl⟩ := Sh.struct Tryz.underlying27 h
 obtain ⟨a, rfl⟩ := Sh.i64 h1
 obtain ⟨ra, rs, rfl, q1⟩ := Sh.rms h2
 obtain ⟨fa, fs, rfl, q2⟩ := Sh.fas h3
 obtain ⟨oa, os, rfl, q3⟩ := Sh.ints h4
 obtain ⟨ha, hs, rfl, q4⟩ := Sh.has h5
 exact ⟨ra, fa, oa, ha, ⟨a, rs, fs, os, hs⟩, rfl, q1, q2, q3, q4⟩
end Go.AM
namespace Go.AM
open Go
def Code.blk (n : Nat) : Code → Option Code
 | .block i b => bif Nat.beq i n then some b else Code.blk n b
 | .seq a b => match Code.blk n a with
  | some c => some c
  | none => Code.blk n b
 | .cond _ a b => match Code.blk n a with
  | some c => some c
  | none => Code.blk n b
 | .loop b => Code.blk n b
 | .scope b => Code.blk n b
 | .rangeFunc _ _ _ b => Code.blk n b
 | _ => none
def loopIn (fn : Func) (n : Nat) : Code := match fn.body with
 | some c => (match Code.blk n c with
  | some (.loop b) => b
  | _ => .skip)
 | none => .skip
def Code.from : Nat → Code → Code
 | 0, c => c
 | n + 1, .seq _ b => Code.from n b
 | _ + 1, _ => .skip
def codeFrom (fn : Func) (n : Nat) : Code := match fn.body with
 | some c => Code.from n c
 | none => .skip
end Go.AM
namespace Go.AM
open Go Go.Proofs
variable [Keep]
attribute [local irreducible] W WO WO1 WD WQ WT thenQ blockQ endR isRet retK Cl ClR
set_option maxHeartbeats 16000000 in
theorem R16_2 (c : Itr) (cs : List Tmp) (K : Fr → Prop) (Q : Out → Prop) (e : Mp AV) (lm : Mp (Nat × List AV)) (hp : Heap) (hours what num hour xx yy lo hi : Int) (k j nn : Nat) (ra fa oa ha dv xv yv kv b1 b2 b3 : AV)
  (c3 : e.get 3 = some (.lptr 3 0 0)) (c4 : e.get 4 = some (.lptr 4 0 0)) (c7 : e.get 7 = some kv) (c9 : e.get 9 = some xv) (c11 : e.get 11 = some yv) (c13 : e.get 13 = some (.int .i64 k)) (h14 : e.get 14 = some (.int .i64 j))
  (d3 : lm.get 3 = some (0, [.int .i64 nn, ra, fa, oa, ha])) (d4 : lm.get 4 = some (0, [dv, .int .i64 what, .int .i64 num, .int .i64 hour]))
  (ox : outV (some xv) = some xv) (oy : outV (some yv) = some yv) (ok : outV (some kv) = some kv)
  (ix : ∀ H, indexAddrV Tryz.prog H 36 xv (.int .i64 k) = some (.vptr [b1])) (iy : ∀ H, indexAddrV Tryz.prog H 36 yv (.int .i64 k) = some (.vptr [b2])) (ik : ∀ H, indexAddrV Tryz.prog H 30 kv (.int .i64 k) = some (.vptr [b3]))
  (p1 : outV (some b1) = some b1) (p2 : outV (some b2) = some b2) (p3 : outV (some b3) = some b3) (q1 : b1.cells = [b1]) (q2 : b2.cells = [b2]) (q3 : b3.cells = [b3]) (r1 : isTuple b1 = false) (r2 : isTuple b2 = false) (r3 : isTuple b3 = false)
  (jx : ∀ H, indexAddrV Tryz.prog H 24 b1 (.int .i64 j) = some (.vptr [.int .i64 xx])) (jy : ∀ H, indexAddrV Tryz.prog H 24 b2 (.int .i64 j) = some (.vptr [.int .i64 yy])) (jk : ∀ H, indexAddrV Tryz.prog H 104 b3 (.int .i64 j) = some (.vptr [.int .i64 lo, .int .i64 hi]))
  (hd : decide ((j : Int) < (nn : Int)) = true) (hw : IntKind.i64.wrap ((j : Int) + 1) = ((j + 1 : Nat) : Int))
  (d1 : decide (xx < lo) = false) (d2 : decide (xx > hi) = false) (d5 : (what == 2) = true → decide (xx < yy) = false) (d6 : (what == 3) = true → decide (xx > yy) = false)
  (hN : ∀ e', e'.get 14 = some (.int .i64 ((j + 1 : Nat) : Int)) → keepE [2, 3, 4, 7, 9, 11, 13] e e' → K (Fr.mk 16 false e' lm hp [] none)) :
  W (dX c) (loopIn Tryz.f16 2) (Fr.mk 16 false e lm hp [] none) (thenQ K Q) := by
 simp only [AV.cells] at q1 q2 q3
 simp only [isTuple] at r1 r2 r3
 have HN := Lib.hid hN
 have D5 := Lib.hid d5
 have D6 := Lib.hid d6
 clear hN d5 d6
 cases w2 : (what == 2) with
 | true =>
  have d5 := D5.out w2
  cases w3 : (what == 3) with
  | true =>
   have d6 := D6.out w3
   repeat' (first | (apply W.drawQ (id := 16) (l1 := [0, 1, 2, 3, 4, 5, 6, 7, 8, 9, 10, 11, 12, 13, 14, 15, 16, 17, 18, 19, 20, 21, 22, 23, 24, 25, 26, 27, 28, 29, 30, 31, 32, 33, 34, 35, 36, 37, 38, 39, 40, 41, 42, 43, 44, 45, 46, 47, 48, 49, 50, 51, 52, 53, 54, 55, 56, 57, 58, 59, 60, 61, 62, 63, 64, 65, 66, 67, 68, 69, 70, 71, 72, 73, 74, 75, 76, 77, 78, 79]) (l2 := []); kernel_rfl; kernel_rfl; kernel_rfl; exact Z4) | refine go1 ?_ | refine go2 (fun hh => ?_) (fun hh => ?_) | fail)
   all_goals refine HN.out _ ?_ ?_
   all_goals simp only [keepE, and_true, and_self, go_sem, *, Nat.reduceLT, Int.reduceEq, Int.reduceBEq, Int.reduceLE, Int.reduceLT, Nat.reduceAdd, Nat.reduceBEq, Nat.reduceEqDiff, reduceIte, Nat.reduceLeDiff, Nat.reduceMul, Nat.reduceSub, reduceCtorEq]
  | false =>
   repeat' (first | (apply W.drawQ (id := 16) (l1 := [0, 1, 2, 3, 4, 5, 6, 7, 8, 9, 10, 11, 12, 13, 14, 15, 16, 17, 18, 19, 20, 21, 22, 23, 24, 25, 26, 27, 28, 29, 30, 31, 32, 33, 34, 35, 36, 37, 38, 39, 40, 41, 42, 43, 44, 45, 46, 47, 48, 49, 50, 51, 52, 53, 54, 55, 56, 57, 58, 59, 60, 61, 62, 63, 64, 65, 66, 67, 68, 69, 70, 71, 72, 73, 74, 75, 76, 77, 78, 79]) (l2 := []); kernel_rfl; kernel_rfl; kernel_rfl; exact Z4) | refine go1 ?_ | refine go2 (fun hh => ?_) (fun hh => ?_) | fail)
   all_goals refine HN.out _ ?_ ?_
   all_goals simp only [keepE, and_true, and_self, go_sem, *, Nat.reduceLT, Int.reduceEq, Int.reduceBEq, Int.reduceLE, Int.reduceLT, Nat.reduceAdd, Nat.reduceBEq, Nat.reduceEqDiff, reduceIte, Nat.reduceLeDiff, Nat.reduceMul, Nat.reduceSub, reduceCtorEq]
 | false =>
  cases w3 : (what == 3) with
  | true =>
   have d6 := D6.out w3
   repeat' (first | (apply W.drawQ (id := 16) (l1 := [0, 1, 2, 3, 4, 5, 6, 7, 8, 9, 10, 11, 12, 13, 14, 15, 16, 17, 18, 19, 20, 21, 22, 23, 24, 25, 26, 27, 28, 29, 30, 31, 32, 33, 34, 35, 36, 37, 38, 39, 40, 41, 42, 43, 44, 45, 46, 47, 48, 49, 50, 51, 52, 53, 54, 55, 56, 57, 58, 59, 60, 61, 62, 63, 64, 65, 66, 67, 68, 69, 70, 71, 72, 73, 74, 75, 76, 77, 78, 79]) (l2 := []); kernel_rfl; kernel_rfl; kernel_rfl; exact Z4) | refine go1 ?_ | refine go2 (fun hh => ?_) (fun hh => ?_) | fail)
   all_goals refine HN.out _ ?_ ?_
   all_goals simp only [keepE, and_true, and_self, go_sem, *, Nat.reduceLT, Int.reduceEq, Int.reduceBEq, Int.reduceLE, Int.reduceLT, Nat.reduceAdd, Nat.reduceBEq, Nat.reduceEqDiff, reduceIte, Nat.reduceLeDiff, Nat.reduceMul, Nat.reduceSub, reduceCtorEq]
  | false =>
   repeat' (first | (apply W.drawQ (id := 16) (l1 := [0, 1, 2, 3, 4, 5, 6, 7, 8, 9, 10, 11, 12, 13, 14, 15, 16, 17, 18, 19, 20, 21, 22, 23, 24, 25, 26, 27, 28, 29, 30, 31, 32, 33, 34, 35, 36, 37, 38, 39, 40, 41, 42, 43, 44, 45, 46, 47, 48, 49, 50, 51, 52, 53, 54, 55, 56, 57, 58, 59, 60, 61, 62, 63, 64, 65, 66, 67, 68, 69, 70, 71, 72, 73, 74, 75, 76, 77, 78, 79]) (l2 := []); kernel_rfl; kernel_rfl; kernel_rfl; exact Z4) | refine go1 ?_ | refine go2 (fun hh => ?_) (fun hh => ?_) | fail)
   all_goals refine HN.out _ ?_ ?_
   all_goals simp only [keepE, and_true, and_self, go_sem, *, Nat.reduceLT, Int.reduceEq, Int.reduceBEq, Int.reduceLE, Int.reduceLT, Nat.reduceAdd, Nat.reduceBEq, Nat.reduceEqDiff, reduceIte, Nat.reduceLeDiff, Nat.reduceMul, Nat.reduceSub, reduceCtorEq]
end Go.AM
