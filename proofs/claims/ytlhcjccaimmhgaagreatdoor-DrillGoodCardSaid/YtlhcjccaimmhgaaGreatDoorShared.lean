/-
  What the laws of this layer share.
-/
import Derived.Test.YtlhcjccaimmhgaaGreatDoorLib
import Derived.Test.YtlhcjccaimmhgaaGreatDoorOpen
import Derived.Test.YtlhcjccaimmhgaaGreatDoorKnown
set_option linter.unusedSectionVars false
set_option linter.unusedVariables false
set_option linter.unusedSimpArgs false
set_option maxRecDepth 100000
namespace Go.AM
open Go Go.Proofs
variable [Keep]
attribute [local irreducible] W WO WO1 WD WQ WT thenQ blockQ endR isRet retK Cl ClR
def c25 (c : FuncId → Option (List AV → Heap → Option (AV × Heap))) : FuncId → Option (List AV → Heap → Option (AV × Heap))
  | 25 => some (pureFn sp25)
  | f => c f
theorem K25 {X : Ctx} (hX : X.intr 25 = some (pureFn sp25)) (h : Heap) : Cl X 25 [] h (.ret (.bool true) h none) := Cl.intr hX rfl
end Go.AM
set_option maxRecDepth 100000
namespace Go.AM
open Go Go.Proofs
variable [Keep]
theorem c25_sound (hT : TabK Tryz.prog) : Sound (dX (c25 cK)) := dX_sound (fun f g h => by
  unfold c25 at h
  split at h
  · cases h; exact F25 hT
  · exact (cK_sound hT).intr f g h)
theorem ClR.gives {X : Ctx} {f : FuncId} {args : List AV} {h : Heap} {v : AV} (c : ClR X f args h (isRet v)) : ∃ h', Cl X f args h (.ret v h' none) := by
  unfold ClR at c
  obtain ⟨r, ⟨n, hn⟩, q⟩ := c
  cases r with
  | ret u h' up =>
    cases up with
    | none => rw [isRet_ret] at q; subst q; exact ⟨h', n, hn⟩
    | some p => exact absurd q (by simp [isRet])
  | pan u h' up => exact absurd q (by simp [isRet])
  | fail => exact absurd q (by simp [isRet])
theorem Sh.i64 {n : Nat} {xs : List AV} (h : Sh Tryz.prog (n + 1) 3 xs) : ∃ i, xs = [.int .i64 i] := by
  obtain ⟨i, h, _⟩ := Sh.int Tryz.underlying3 h
  exact ⟨i, h⟩
theorem ag3 : isAggT Tryz.prog 3 = false := by simp [isAggT, Tryz.underlying3]
theorem ag38 : isAggT Tryz.prog 38 = true := by simp [isAggT, Tryz.underlying38]
theorem Sh.pt {n : Nat} {xs : List AV} (h : Sh Tryz.prog (n + 2) 38 xs) : ∃ p : Pt, xs = [.int .i64 p.x, .int .i64 p.y] := by
  have := Sh.struct Tryz.underlying38 h
  obtain ⟨x, y, rfl, h1, x2, y2, rfl, h2, rfl⟩ := this
  obtain ⟨a, rfl⟩ := Sh.i64 h1
  obtain ⟨b, rfl⟩ := Sh.i64 h2
  exact ⟨⟨a, b⟩, rfl⟩
theorem Sh.pts {n : Nat} {xs : List AV} (h : Sh Tryz.prog (n + 3) 22 xs) : ∃ (a : AV) (l : List Pt), xs = [a] ∧ isSl a (l.map ptC.enc) :=
  Sh.slice ptC Tryz.underlying22 (fun xs h => by
    obtain ⟨p, rfl⟩ := Sh.pt h
    exact ⟨p, by rw [ag38]; rfl⟩) h
end Go.AM
