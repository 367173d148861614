/-
  A part of the proof: contracts of functions.
-/
import Derived.Test.YtkpbdjpekjdhcaaGreatDoorUAF
import Derived.Test.YtkpbdjpekjdhcaaGreatDoorUAU
import Derived.Test.YtkpbdjpekjdhcaaGreatDoorUAD
set_option linter.unusedSimpArgs false
set_option linter.unusedVariables false
set_option linter.unusedSectionVars false
set_option maxRecDepth 100000
namespace Go.AM
open Go Go.Proofs
open Go.TX (Rm Fa Ha Hs)
variable [Keep]
theorem ClR.gives {X : Ctx} {f : FuncId} {args : List AV} {h : Heap} {v : AV} (c : ClR X f args h (isRet v)) : ∃ h', Cl X f args h (.ret v h' none) := by
 unfold ClR at c
 obtain ⟨r, ⟨n, hn⟩, q⟩ := c
 cases r with
 | ret u h' up =>
  cases up with
  | none => rw [isRet_ret] at q; subst q; exact ⟨h', n, hn⟩
  | some p => exact absurd q (by simp [isRet])
 | pan u h' up => exact absurd q (by simp [isRet])
 | fail => exact absurd q (by simp [isRet])
theorem Sh.i64 {n : Nat} {xs : List AV} (h : Sh Tryz.prog (n + 1) 3 xs) : ∃ i, xs = [.int .i64 i] := by
 obtain ⟨i, h, _⟩ := Sh.int Tryz.underlying3 h
 exact ⟨i, h⟩
theorem ag3 : isAggT Tryz.prog 3 = false := by simp [isAggT, Tryz.underlying3]
theorem ag24 : isAggT Tryz.prog 24 = false := by simp [isAggT, Tryz.underlying24]
theorem ag27 : isAggT Tryz.prog 27 = true := by simp [isAggT, Tryz.underlying27]
theorem ag136 : isAggT Tryz.prog 136 = true := by simp [isAggT, Tryz.underlying136]
theorem ag103 : isAggT Tryz.prog 103 = true := by simp [isAggT, Tryz.underlying103]
theorem ag106 : isAggT Tryz.prog 106 = true := by simp [isAggT, Tryz.underlying106]
theorem Sh.ints {n : Nat} {xs : List AV} (h : Sh Tryz.prog (n + 2) 24 xs) : ∃ (a : AV) (l : List Int), xs = [a] ∧ isSl a (l.map intC.enc) :=
 Sh.slice intC Tryz.underlying24 (fun xs h => by
  obtain ⟨i, rfl⟩ := Sh.i64 h
  exact ⟨i, by rw [ag3]; rfl⟩) h
theorem Sh.span {n : Nat} {xs : List AV} (h : Sh Tryz.prog (n + 2) 56 xs) : ∃ p q : Int, xs = [.int .i64 p, .int .i64 q] := by
 obtain ⟨x1, y1, rfl, h1, x2, y2, rfl, h2, rfl⟩ := Sh.struct Tryz.underlying56 h
 obtain ⟨a, rfl⟩ := Sh.i64 h1
 obtain ⟨b, rfl⟩ := Sh.i64 h2
 exact ⟨a, b, rfl⟩
theorem Sh.rm {n : Nat} {xs : List AV} (h : Sh Tryz.prog (n + 3) 136 xs) : ∃ p : Rm, xs = [.int .i64 p.lo, .int .i64 p.hi, .int .i64 p.mke, .int .i64 p.wt, .int .i64 p.stt] := by
 obtain ⟨x1, y1, rfl, h1, x2, y2, rfl, h2, x3, y3, rfl, h3, x4, y4, rfl, h4, rfl⟩ := Sh.struct Tryz.underlying136 h
 obtain ⟨p, q, rfl⟩ := Sh.span h1
 obtain ⟨b, rfl⟩ := Sh.i64 h2
 obtain ⟨c, rfl⟩ := Sh.i64 h3
 obtain ⟨d, rfl⟩ := Sh.i64 h4
 exact ⟨⟨p, q, b, c, d⟩, rfl⟩
theorem Sh.fa {n : Nat} {xs : List AV} (h : Sh Tryz.prog (n + 2) 103 xs) : ∃ p : Fa, xs = [.int .i64 p.room, .int .i64 p.draws] := by
 obtain ⟨x1, y1, rfl, h1, x2, y2, rfl, h2, rfl⟩ := Sh.struct Tryz.underlying103 h
 obtain ⟨a, rfl⟩ := Sh.i64 h1
 obtain ⟨b, rfl⟩ := Sh.i64 h2
 exact ⟨⟨a, b⟩, rfl⟩
theorem Sh.ha {n : Nat} {xs : List AV} (h : Sh Tryz.prog (n + 2) 106 xs) : ∃ p : Ha, xs = [.int .i64 p.limit, .int .i64 p.most] := by
 obtain ⟨x1, y1, rfl, h1, x2, y2, rfl, h2, rfl⟩ := Sh.struct Tryz.underlying106 h
 obtain ⟨a, rfl⟩ := Sh.i64 h1
 obtain ⟨b, rfl⟩ := Sh.i64 h2
 exact ⟨⟨a, b⟩, rfl⟩
theorem Sh.rms {n : Nat} {xs : List AV} (h : Sh Tryz.prog (n + 4) 22 xs) : ∃ (a : AV) (l : List Rm), xs = [a] ∧ isSl a (l.map rmC.enc) :=
 Sh.slice rmC Tryz.underlying22 (fun xs h => by
  obtain ⟨p, rfl⟩ := Sh.rm h
  exact ⟨p, by rw [ag136]; rfl⟩) h
theorem Sh.fas {n : Nat} {xs : List AV} (h : Sh Tryz.prog (n + 3) 23 xs) : ∃ (a : AV) (l : List Fa), xs = [a] ∧ isSl a (l.map faC.enc) :=
 Sh.slice faC Tryz.underlying23 (fun xs h => by
  obtain ⟨p, rfl⟩ := Sh.fa h
  exact ⟨p, by rw [ag103]; rfl⟩) h
theorem Sh.has {n : Nat} {xs : List AV} (h : Sh Tryz.prog (n + 3) 25 xs) : ∃ (a : AV) (l : List Ha), xs = [a] ∧ isSl a (l.map haC.enc) :=
 Sh.slice haC Tryz.underlying25 (fun xs h => by
  obtain ⟨p, rfl⟩ := Sh.ha h
  exact ⟨p, by rw [ag106]; rfl⟩) h
theorem Sh.house {n : Nat} {xs : List AV} (h : Sh Tryz.prog (n + 5) 27 xs) : ∃ (ra fa oa ha : AV) (m : Hs), xs = [.int .i64 m.hours, ra, fa, oa, ha] ∧ isSl ra (m.rooms.map rmC.enc) ∧ isSl fa (m.fans.map faC.enc) ∧ isSl oa (m.op.map intC.enc) ∧ isSl ha (m.hands.map haC.enc) := by
 obtain ⟨x1, y1, rfl, h1, x2, y2, rfl, h2, x3, y3, rfl, h3, x4, y4, rfl, h4, x5, y5, rfl, h5, rfl⟩ := Sh.struct Tryz.underlying27 h
 obtain ⟨a, rfl⟩ := Sh.i64 h1
 obtain ⟨ra, rs, rfl, q1⟩ := Sh.rms h2
 obtain ⟨fa, fs, rfl, q2⟩ := Sh.fas h3
 obtain ⟨oa, os, rfl, q3⟩ := Sh.ints h4
 obtain ⟨ha, hs, rfl, q4⟩ := Sh.has h5
 exact ⟨ra, fa, oa, ha, ⟨a, rs, fs, os, hs⟩, rfl, q1, q2, q3, q4⟩
end Go.AM
namespace Go.AM
open Go
def Code.blk (n : Nat) : Code → Option Code
 | .block i b => bif Nat.beq i n then some b else Code.blk n b
 | .seq a b => match Code.blk n a with
  | some c => some c
  | none => Code.blk n b
 | .cond _ a b => match Code.blk n a with
  | some c => some c
  | none => Code.blk n b
 | .loop b => Code.blk n b
 | .scope b => Code.blk n b
 | .rangeFunc _ _ _ b => Code.blk n b
 | _ => none
def Code.from : Nat → Code → Code
 | 0, c => c
 | n + 1, .seq _ b => Code.from n b
 | _ + 1, _ => .skip
def codeFrom (fn : Func) (n : Nat) : Code := match fn.body with
 | some c => Code.from n c
 | none => .skip
end Go.AM
