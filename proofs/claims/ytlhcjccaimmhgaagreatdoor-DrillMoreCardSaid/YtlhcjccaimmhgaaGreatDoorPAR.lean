/-
  A part of the proof: contracts of functions.
-/
import Derived.Test.YtlhcjccaimmhgaaGreatDoorPAQ
import Derived.Test.YtlhcjccaimmhgaaGreatDoorPAP
set_option linter.unusedSectionVars false
set_option linter.unusedVariables false
set_option linter.unusedSimpArgs false
set_option maxRecDepth 100000
namespace Go.AM
open Go Go.Proofs
variable [Keep]
attribute [local irreducible] W WO WO1 WD WQ WT thenQ blockQ endR isRet retK Cl ClR
def cmpI (x y : Int) : Int := if x < y then -1 else if x > y then 1 else 0
def orI (l : List Int) : Int := (l.find? fun x => x != 0).getD 0
def cmpP (p q : Pt) : Int := orI [cmpI p.x q.x, cmpI p.y q.y]
def cmpL : List Pt → List Pt → Int
 | [], [] => 0
 | [], _ :: _ => -1
 | _ :: _, [] => 1
 | p :: r, q :: s => if cmpP p q != 0 then cmpP p q else cmpL r s
structure Rs where
 st : List Pt
 n : Int
 w : Int
def cmpR (a b : Rs) : Int := orI [cmpI a.n b.n, cmpI a.w b.w, cmpL a.st b.st]
end Go.AM
