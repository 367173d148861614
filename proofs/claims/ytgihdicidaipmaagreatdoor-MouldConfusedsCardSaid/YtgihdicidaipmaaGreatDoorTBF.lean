/-
    A part of the proof: contracts of functions.
-/
import Derived.Test.YtgihdicidaipmaaGreatDoorTBD
import Derived.Test.YtgihdicidaipmaaGreatDoorTBE
set_option maxRecDepth 1000000
set_option linter.unusedSimpArgs false
set_option linter.unusedVariables false
set_option linter.unusedSectionVars false
namespace Go.AM
open Go Go.Proofs
theorem F120D[Keep]:IntrFn Tryz.prog 120 (flatFnD sp120):=flat_of_pure (fun args v h=>by
 unfold sp120 at h;split at h
 ·rw[Option.map_eq_some_iff]at h
  obtain⟨b,_,rfl⟩:=h;rfl
 ·cases h) F120
def cKN:Itr
 |22=>some (flatFnD (memoQ tab22))
 |27=>some (newQ (memoQ tab27))
 |30=>some (newQ (memoQ tab30))
 |31=>some (flatFnD (memoQ tab31))
 |32=>some (newQ (memoQ tab32))
 |38=>some (newQ (memoQ tab38))
 |40=>some (newQ (memoQ tab40))
 |45=>some (flatFnD (memoQ tab45))
 |51=>some (flatFnD (memoQ tab51))
 |50=>some (newQ (memoQ tab50))
 |120=>some (flatFnD sp120)
 |153=>some (spJoin)
 |155=>some (atOnce spSplit)
 |158=>some (pureFn sp158)
 |126=>some (pureFn sp126)
 |_=>none
theorem cKN_sound[Keep]:Sound (dX cKN):=dX_sound (fun f g h=>by
 unfold cKN at h;split at h
 ·cases h;exact T22
 ·cases h;exact T27
 ·cases h;exact T30
 ·cases h;exact T31
 ·cases h;exact T32
 ·cases h;exact T38
 ·cases h;exact T40
 ·cases h;exact T45
 ·cases h;exact T51
 ·cases h;exact T50
 ·cases h;exact F120D
 ·cases h;exact F153
 ·cases h;exact F155
 ·cases h;exact F158
 ·cases h;exact F126
 ·cases h)
def sp21:List AV->Option AV
 | []=>some (.bool true)
 |_=>none
def retTrue:COut->Bool
 | .ret (.bool true) _ none=>true
 |_=>false
theorem retTrue_ret{r:COut}(h:retTrue r=true):∃h',r= .ret (.bool true) h' none:=by
 unfold retTrue at h;split at h
 ·exact⟨_,rfl⟩
 ·cases h
theorem known_run[Keep]:retTrue (callF (dX cKN) (ev (dX cKN) 300) 21 [] emptyHp)=true:=by kernel_rfl
theorem F21[Keep]:IntrFn Tryz.prog 21 (pureFn sp21):=by
 refine pure_intr1 (X:=dX cKN) cKN_sound ?_ ?_
 ·intro args v e
  unfold sp21 at e;split at e
  ·cases e;rfl
  ·cases e
 ·intro args v e
  unfold sp21 at e;split at e
  ·cases e
   obtain⟨h',e⟩:=retTrue_ret known_run;exact⟨h',300,e⟩
  ·cases e
end Go.AM
