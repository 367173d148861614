/-
    A part of the proof: contracts of functions.
-/
import Derived.Test.YtgihdicidaipmaaGreatDoorTAY
import Derived.Test.YtgihdicidaipmaaGreatDoorTAT
import Derived.Test.YtgihdicidaipmaaGreatDoorTAR
import Derived.Test.YtgihdicidaipmaaGreatDoorTAO
import Derived.Test.YtgihdicidaipmaaGreatDoorTBA
set_option linter.unusedSectionVars false
set_option linter.unusedVariables false
set_option linter.unusedSimpArgs false
set_option maxRecDepth 100000
namespace Go.AM
open Go Go.Proofs
variable[Keep]
attribute [local irreducible] W WO WO1 WD WQ WT thenQ blockQ endR isRet retK Cl ClR
attribute [local irreducible] houseF lisN natsE couldN betW whoN twN confP bestN nodeW okW loopW upTo betB provP spanP leadF clearB agrN
noncomputable def cCC:Itr
 |136=>some (flatFnD sp136)
 |120=>some (pureFn sp120)
 |76=>some (pureFn sp76)
 |77=>some (pureFn sp77)
 |89=>some (pureFn sp89)
 |100=>some (pureFn sp100)
 |171=>some (pureFn sp171)
 |145=>some (flatFn sp145)
 |117=>some (flatFn sp117)
 |119=>some (pureFn sp119)
 |_=>none
theorem cCC_sound:Sound (dX cCC):=dX_sound (fun f g h=>by
 unfold cCC at h;split at h
 ·cases h;exact F136
 ·cases h;exact F120
 ·cases h;exact F76
 ·cases h;exact F77
 ·cases h;exact F89
 ·cases h;exact F100
 ·cases h;exact F171
 ·cases h;exact F145
 ·cases h;exact F117
 ·cases h;exact F119
 ·cases h)
theorem cCC_B:CxB cCC:={ h74:=rfl,h122:=rfl,h134:=rfl,h135:=rfl,h162:=rfl,h163:=rfl,h137:=rfl,h136:=rfl,h120:=rfl,h76:=rfl,h77:=rfl,h89:=rfl,h100:=rfl }
theorem cCC_H:CxH cCC:={ h101:=rfl,h137:=rfl,h141:=rfl,h165:=rfl,h166:=rfl,h146:=rfl,h136:=rfl,h171:=rfl,h139:=rfl,h138:=rfl,h164:=rfl,h83:=rfl }
theorem cCC_T:CxT cCC:={ h101:=rfl,h137:=rfl,h141:=rfl,h165:=rfl,h166:=rfl,h146:=rfl,h136:=rfl,h171:=rfl,h139:=rfl,h138:=rfl,h164:=rfl,h83:=rfl,h140:=rfl,h132:=rfl,h97:=rfl }
theorem cCC_P:CxP cCC:={ h101:=rfl,h137:=rfl,h141:=rfl,h165:=rfl,h166:=rfl,h146:=rfl,h136:=rfl,h171:=rfl,h102:=rfl,h103:=rfl,h104:=rfl }
theorem cCC_W:CxW cCC:={ h112:=rfl,h113:=rfl,h114:=rfl,h146:=rfl,h171:=rfl,h145:=rfl }
def sp27:List AV->Option AV
 | [a,.int .i64 m,.int .i64 s]=>(bkV a).map fun b=>hadV b m s
 |_=>none
theorem F27:IntrFn Tryz.prog 27 (newQ sp27):=newQ_fn (X:=dX cCC) cCC_sound fun args v h=>by
 unfold sp27 at h;split at h
 ·rw[Option.map_eq_some_iff]at h
  obtain⟨b,hb,rfl⟩:=h;obtain⟨sa,rfl,hm⟩:=bk_is hb;exact C27 cCC_B rfl rfl rfl rfl rfl rfl b sa hb hm _ _
 ·cases h
def sp30:List AV->Option AV
 | [a,.agg [.int .i64 A,.int .i64 D]]=>(bkV a).map fun b=>couldV b A D
 |_=>none
theorem F30:IntrFn Tryz.prog 30 (newQ sp30):=newQ_fn (X:=dX cCC) cCC_sound fun args v h=>by
 unfold sp30 at h;split at h
 ·rw[Option.map_eq_some_iff]at h
  obtain⟨b,hb,rfl⟩:=h;obtain⟨sa,rfl,hm⟩:=bk_is hb;exact C30 cCC_B cCC_H rfl rfl rfl b sa hb hm _ _
 ·cases h
def sp31:List AV->Option AV
 | [a,.agg [.int .i64 A,.int .i64 D],.int .i64 m]=>(bkV a).map fun b=>betV b A D m
 |_=>none
theorem p31:∀args v,sp31 args=some v->v.flat=true:=by
 intro args v h;unfold sp31 at h;split at h
 ·rw[Option.map_eq_some_iff]at h
  obtain⟨b,hb,rfl⟩:=h;unfold betV;repeat' split
  all_goals rfl
 ·cases h
theorem q31:∀args v,sp31 args=some v->v.pur=true:=by
 intro args v h;unfold sp31 at h;split at h
 ·rw[Option.map_eq_some_iff]at h
  obtain⟨b,hb,rfl⟩:=h;unfold betV;repeat' split
  all_goals rfl
 ·cases h
theorem f31:IntrFn Tryz.prog 31 (pureFn sp31):=by
 refine pure_fn (X:=dX cCC) cCC_sound q31 ?_;intro args v h;unfold sp31 at h;split at h
 ·rw[Option.map_eq_some_iff]at h
  obtain⟨b,hb,rfl⟩:=h;obtain⟨sa,rfl,hm⟩:=bk_is hb;exact C31 cCC_B cCC_H rfl rfl rfl b sa hb hm _ _ _
 ·cases h
theorem F31:IntrFn Tryz.prog 31 (flatFnD sp31):=flat_of_pure p31 f31
def sp32:List AV->Option AV
 | [a,.agg [.int .i64 A,.int .i64 D]]=>(bkV a).map fun b=>whoV b A D
 |_=>none
theorem F32:IntrFn Tryz.prog 32 (newQ sp32):=newQ_fn (X:=dX cCC) cCC_sound fun args v h=>by
 unfold sp32 at h;split at h
 ·rw[Option.map_eq_some_iff]at h
  obtain⟨b,hb,rfl⟩:=h;obtain⟨sa,rfl,hm⟩:=bk_is hb;exact C32 cCC_B cCC_H rfl rfl rfl rfl b sa hb hm _ _
 ·cases h
def sp38:List AV->Option AV
 | [a,.agg [.int .i64 A,.int .i64 D],.agg [.int .i64 B,.int .i64 E]]=>(bkV a).map fun b=>twiceV b A D B E
 |_=>none
theorem F38:IntrFn Tryz.prog 38 (newQ sp38):=newQ_fn (X:=dX cCC) cCC_sound fun args v h=>by
 unfold sp38 at h;split at h
 ·rw[Option.map_eq_some_iff]at h
  obtain⟨b,hb,rfl⟩:=h;obtain⟨sa,rfl,hm⟩:=bk_is hb;exact C38 cCC_B cCC_T rfl rfl b sa hb hm _ _ _ _
 ·cases h
def sp40:List AV->Option AV
 | [a,.int .i64 m,.int .i64 s,.int .i64 w]=>(bkV a).map fun b=>provV b m s w
 |_=>none
theorem F40:IntrFn Tryz.prog 40 (newQ sp40):=newQ_fn (X:=dX cCC) cCC_sound fun args v h=>by
 unfold sp40 at h;split at h
 ·rw[Option.map_eq_some_iff]at h
  obtain⟨b,hb,rfl⟩:=h;obtain⟨sa,rfl,hm⟩:=bk_is hb;exact C40 cCC_B cCC_P rfl rfl b sa hb hm _ _ _
 ·cases h
def sp45:List AV->Option AV
 | [a,.int .i64 m,.int .i64 s]=>(bkV a).map fun b=>confV b m s
 |_=>none
theorem p45:∀args v,sp45 args=some v->v.flat=true:=by
 intro args v h;unfold sp45 at h;split at h
 ·rw[Option.map_eq_some_iff]at h
  obtain⟨b,hb,rfl⟩:=h;unfold confV;repeat' split
  all_goals rfl
 ·cases h
theorem q45:∀args v,sp45 args=some v->v.pur=true:=by
 intro args v h;unfold sp45 at h;split at h
 ·rw[Option.map_eq_some_iff]at h
  obtain⟨b,hb,rfl⟩:=h;unfold confV;repeat' split
  all_goals rfl
 ·cases h
theorem f45:IntrFn Tryz.prog 45 (pureFn sp45):=by
 refine pure_fn (X:=dX cCC) cCC_sound q45 ?_;intro args v h;unfold sp45 at h;split at h
 ·rw[Option.map_eq_some_iff]at h
  obtain⟨b,hb,rfl⟩:=h;obtain⟨sa,rfl,hm⟩:=bk_is hb;exact C45 cCC_B cCC_H rfl rfl rfl b sa hb hm _ _
 ·cases h
theorem F45:IntrFn Tryz.prog 45 (flatFnD sp45):=flat_of_pure p45 f45
def sp50:List AV->Option AV
 | [a]=>(bkV a).map fun b=>withV b
 |_=>none
theorem F50:IntrFn Tryz.prog 50 (newQ sp50):=newQ_fn (X:=dX cCC) cCC_sound fun args v h=>by
 unfold sp50 at h;split at h
 ·rw[Option.map_eq_some_iff]at h
  obtain⟨b,hb,rfl⟩:=h;obtain⟨sa,rfl,hm⟩:=bk_is hb;exact C50 cCC_B cCC_H cCC_W rfl rfl rfl rfl rfl rfl rfl b sa hb hm
 ·cases h
def sp51:List AV->Option AV
 | [a,ga]=>(bkV a).bind fun b=>(slV intC ga).map fun gone=>clearV b gone
 |_=>none
theorem p51:∀args v,sp51 args=some v->v.flat=true:=by
 intro args v h;unfold sp51 at h;split at h
 ·rw[Option.bind_eq_some_iff]at h
  obtain⟨b,hb,h⟩:=h;rw[Option.map_eq_some_iff]at h;obtain⟨gone,hga,rfl⟩:=h;unfold clearV;repeat' split
  all_goals rfl
 ·cases h
theorem q51:∀args v,sp51 args=some v->v.pur=true:=by
 intro args v h;unfold sp51 at h;split at h
 ·rw[Option.bind_eq_some_iff]at h
  obtain⟨b,hb,h⟩:=h;rw[Option.map_eq_some_iff]at h;obtain⟨gone,hga,rfl⟩:=h;unfold clearV;repeat' split
  all_goals rfl
 ·cases h
theorem f51:IntrFn Tryz.prog 51 (pureFn sp51):=by
 refine pure_fn (X:=dX cCC) cCC_sound q51 ?_;intro args v h;unfold sp51 at h;split at h
 ·rw[Option.bind_eq_some_iff]at h
  obtain⟨b,hb,h⟩:=h;rw[Option.map_eq_some_iff]at h;obtain⟨gone,hga,rfl⟩:=h;obtain⟨sa,rfl,hm⟩:=bk_is hb;exact C51 cCC_B cCC_H rfl rfl rfl rfl rfl rfl rfl b sa hb hm _ gone hga
 ·cases h
theorem F51:IntrFn Tryz.prog 51 (flatFnD sp51):=flat_of_pure p51 f51
end Go.AM
namespace Go.AM
open Go
variable[Keep]
def memoQ(tab:List (List AV×AV))(args:List AV):Option AV:=
 match tab with
 | []=>none
 |(a,v)::r=>bif AV.sameL a args then some v else memoQ r args
theorem memoQ_mem{tab:List (List AV×AV)}{args:List AV}{v:AV}(h:memoQ tab args=some v):(args,v)∈tab:=by
 induction tab with
 |nil=>simp[memoQ]at h
 | cons e r ih =>
  obtain⟨a,u⟩:=e;simp only[memoQ]at h;cases hs:AV.sameL a args with
  |true=>
   rw[hs]at h;have:=AV.sameL_eq _ _ hs;subst this;cases h;exact .head _
  |false=>
   rw[hs]at h;exact .tail _ (ih h)
end Go.AM
