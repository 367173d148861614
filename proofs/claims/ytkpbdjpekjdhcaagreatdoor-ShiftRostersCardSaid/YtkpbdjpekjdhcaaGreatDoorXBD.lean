/-
  A part of the proof: contracts of functions.
-/
import Derived.Test.YtkpbdjpekjdhcaaGreatDoorXAW
import Derived.Test.YtkpbdjpekjdhcaaGreatDoorXAZ
set_option linter.unusedSectionVars false
set_option linter.unusedVariables false
set_option linter.unusedSimpArgs false
set_option maxRecDepth 100000
namespace Go.AM
open Go Go.Proofs
variable [Keep]
attribute [local irreducible] W WO WO1 WD WQ WT thenQ blockQ endR isRet retK Cl ClR
open Go.TX (Rm Fa Ha Hs)
def orI (a b : Int) : Int := IntKind.i64.wrap ((BitVec.ofInt 64 a ||| BitVec.ofInt 64 b).toNat)
def bitI (r : Int) : Int := IntKind.i64.wrap (1 * 2 ^ min r.toNat 64)
theorem intOp_shlI {r : Int} (h : 0 <= r) : intOp .shl .i64 1 r = some (.int .i64 (bitI r)) := by
 have : ¬ r < 0 := by omega
 simp only [intOp, if_neg this]
 rfl
def metF : List Int -> Int -> Option Int
 | [], s => some s
 | r :: l, s => if (r == -1) = true then metF l s else if hasB s r = true then none else metF l (orI s (bitI r))
def colL (g : List (List Int)) (k : Nat) : List Int := g.map fun p => p.getD k 0
def openAt (m : Hs) (g : List (List Int)) (k : Nat) : Bool := match metF (colL g k) 0 with
 | some s => !(s != m.op.getD k 0)
 | none => false
def rosB (m : Hs) (g : List (List Int)) : Bool := !((g.length : Int) != (m.hands.length : Int)) && !(g.any fun p => !pathB m p) && (List.range m.op.length).all (openAt m g)
def cntOk (b : Bool) (n : Nat) : Bool := !((b && ((n : Int) != 1)) || (!b && ((n : Int) != 0)))
def hourB (m : Hs) (g : List (List Int)) (k : Nat) : Bool := (List.range m.rooms.length).all fun r => cntOk (hasB (m.op.getD k 0) r) ((colL g k).count (r : Int))
def rosR (m : Hs) (g : List (List Int)) : Bool := g.all (pathB m) && !((g.length : Int) != (m.hands.length : Int)) && (List.range m.op.length).all (hourB m g)
structure RosOk (m : Hs) (g : List (List Int)) : Prop where
 len : g.length = m.hands.length
 path : ∀ p ∈ g, pathB m p = true
 hour : ∀ k, k < m.op.length -> openAt m g k = true
attribute [local irreducible] hasB metF pathB
end Go.AM
