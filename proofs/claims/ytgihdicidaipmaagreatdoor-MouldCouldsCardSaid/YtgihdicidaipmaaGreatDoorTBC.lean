/-
    A part of the proof: contracts of functions.
-/
import Derived.Test.YtgihdicidaipmaaGreatDoorTBB
set_option linter.unusedSectionVars false
set_option linter.unusedVariables false
set_option maxRecDepth 1000000
namespace Go.AM
open Go Go.Proofs
variable[Keep]
def bavB(mi:Int):AV:=.agg [.int .i64 mi,.int .i64 0,.vslice [
 .agg [.int .i64 (-1),.int .i64 0,.int .i64 0,.vslice [.agg [.int .i64 0,.int .i64 1,.int .i64 1],.agg [.int .i64 1,.int .i64 4,.int .i64 8]],.vslice [.agg [.int .i64 0,.int .i64 5,.int .i64 6,.int .i64 1,.int .i64 2],.agg [.int .i64 1,.int .i64 3,.int .i64 5,.int .i64 5,.int .i64 5]]],
 .agg [.int .i64 0,.int .i64 2,.int .i64 5,.vslice [.agg [.int .i64 2,.int .i64 3,.int .i64 4]],.vslice [.agg [.int .i64 2,.int .i64 4,.int .i64 8,.int .i64 3,.int .i64 4]]]]]
def okS(o:Option AV)(v:AV):Bool:=match o with|some u=>AV.same u v|none=>false
theorem okS_is{o:Option AV}{v:AV}(h:okS o v=true):o=some v:=by
 unfold okS at h;split at h
 ·rw[AV.same_eq _ _ h]
 ·cases h
theorem newQ_tab{P:Program}{f:FuncId}{spec:List AV->Option AV}{tab:List (List AV×AV)}(hF:IntrFn P f (newQ spec))(hr:∀e∈tab,spec e.1=some e.2):IntrFn P f (newQ (memoQ tab)):=by
 intro args h v h' hg;refine hF args h v h' ?_;unfold newQ at hg ⊢;split at hg
 ·rename_i l hl
  split at hg
  ·rename_i u hu
   rw[hr _ (memoQ_mem hu)];exact hg
  ·cases hg
 ·cases hg
theorem flatD_tab{P:Program}{f:FuncId}{spec:List AV->Option AV}{tab:List (List AV×AV)}(hF:IntrFn P f (flatFnD spec))(hr:∀e∈tab,spec e.1=some e.2):IntrFn P f (flatFnD (memoQ tab)):=newQ_tab hF hr
theorem F22D:IntrFn Tryz.prog 22 (flatFnD sp22):=flat_of_pure (fun args v h=>by
 unfold sp22 at h;split at h
 ·rw[Option.map_eq_some_iff]at h
  obtain⟨b,_,rfl⟩:=h;unfold knownV;split
  ·split<;>rfl
  ·rfl
 ·cases h) F22
def tab22:List (List AV×AV):=[([bavB 1,.int .i64 1,.int .i64 4],.tuple [.int .i64 5,.int .i64 7,.int .i64 0])]
theorem fB22:okS (sp22 [bavB 1,.int .i64 1,.int .i64 4]) (.tuple [.int .i64 5,.int .i64 7,.int .i64 0])=true:=by kernel_rfl
theorem T22:IntrFn Tryz.prog 22 (flatFnD (memoQ tab22)):=flatD_tab F22D fun e he=>by
 unfold tab22 at he;cases List.mem_singleton.1 he;exact okS_is fB22
def tab27:List (List AV×AV):=[([bavB 1,.int .i64 0,.int .i64 6],.tuple [.vslice [.int .i64 0,.int .i64 1],.int .i64 0])]
theorem fB27:okS (sp27 [bavB 1,.int .i64 0,.int .i64 6]) (.tuple [.vslice [.int .i64 0,.int .i64 1],.int .i64 0])=true:=by kernel_rfl
theorem T27:IntrFn Tryz.prog 27 (newQ (memoQ tab27)):=newQ_tab F27 fun e he=>by
 unfold tab27 at he;cases List.mem_singleton.1 he;exact okS_is fB27
def tab30:List (List AV×AV):=[([bavB 1,.agg [.int .i64 1,.int .i64 9]],.tuple [.vslice [.int .i64 0,.int .i64 1],.int .i64 0])]
theorem fB30:okS (sp30 [bavB 1,.agg [.int .i64 1,.int .i64 9]]) (.tuple [.vslice [.int .i64 0,.int .i64 1],.int .i64 0])=true:=by kernel_rfl
theorem T30:IntrFn Tryz.prog 30 (newQ (memoQ tab30)):=newQ_tab F30 fun e he=>by
 unfold tab30 at he;cases List.mem_singleton.1 he;exact okS_is fB30
def tab31:List (List AV×AV):=[([bavB 1,.agg [.int .i64 5,.int .i64 9],.int .i64 1],.tuple [.agg [.int .i64 3,.int .i64 8],.int .i64 0])]
theorem fB31:okS (sp31 [bavB 1,.agg [.int .i64 5,.int .i64 9],.int .i64 1]) (.tuple [.agg [.int .i64 3,.int .i64 8],.int .i64 0])=true:=by kernel_rfl
theorem T31:IntrFn Tryz.prog 31 (flatFnD (memoQ tab31)):=flatD_tab F31 fun e he=>by
 unfold tab31 at he;cases List.mem_singleton.1 he;exact okS_is fB31
def tab32:List (List AV×AV):=[([bavB 1,.agg [.int .i64 1,.int .i64 2]],.tuple [.vslice [.int .i64 0],.int .i64 0])]
theorem fB32:okS (sp32 [bavB 1,.agg [.int .i64 1,.int .i64 2]]) (.tuple [.vslice [.int .i64 0],.int .i64 0])=true:=by kernel_rfl
theorem T32:IntrFn Tryz.prog 32 (newQ (memoQ tab32)):=newQ_tab F32 fun e he=>by
 unfold tab32 at he;cases List.mem_singleton.1 he;exact okS_is fB32
def tab38:List (List AV×AV):=[([bavB 0,.agg [.int .i64 1,.int .i64 9],.agg [.int .i64 3,.int .i64 9]],.tuple [.vslice [.int .i64 0],.int .i64 0])]
theorem fB38:okS (sp38 [bavB 0,.agg [.int .i64 1,.int .i64 9],.agg [.int .i64 3,.int .i64 9]]) (.tuple [.vslice [.int .i64 0],.int .i64 0])=true:=by kernel_rfl
theorem T38:IntrFn Tryz.prog 38 (newQ (memoQ tab38)):=newQ_tab F38 fun e he=>by
 unfold tab38 at he;cases List.mem_singleton.1 he;exact okS_is fB38
def tab40:List (List AV×AV):=[([bavB 0,.int .i64 0,.int .i64 6,.int .i64 1],.tuple [.vslice [.agg [.int .i64 1,.int .i64 1],.agg [.int .i64 7,.int .i64 8]],.int .i64 0])]
theorem fB40:okS (sp40 [bavB 0,.int .i64 0,.int .i64 6,.int .i64 1]) (.tuple [.vslice [.agg [.int .i64 1,.int .i64 1],.agg [.int .i64 7,.int .i64 8]],.int .i64 0])=true:=by kernel_rfl
theorem T40:IntrFn Tryz.prog 40 (newQ (memoQ tab40)):=newQ_tab F40 fun e he=>by
 unfold tab40 at he;cases List.mem_singleton.1 he;exact okS_is fB40
def tab45:List (List AV×AV):=[([bavB 0,.int .i64 0,.int .i64 1],.tuple [.int .i64 1,.int .i64 0])]
theorem fB45:okS (sp45 [bavB 0,.int .i64 0,.int .i64 1]) (.tuple [.int .i64 1,.int .i64 0])=true:=by kernel_rfl
theorem T45:IntrFn Tryz.prog 45 (flatFnD (memoQ tab45)):=flatD_tab F45 fun e he=>by
 unfold tab45 at he;cases List.mem_singleton.1 he;exact okS_is fB45
def tab51:List (List AV×AV):=[([bavB 1,.vslice [.int .i64 0]],.tuple [.bool true,.int .i64 0])]
theorem fB51:okS (sp51 [bavB 1,.vslice [.int .i64 0]]) (.tuple [.bool true,.int .i64 0])=true:=by kernel_rfl
theorem T51:IntrFn Tryz.prog 51 (flatFnD (memoQ tab51)):=flatD_tab F51 fun e he=>by
 unfold tab51 at he;cases List.mem_singleton.1 he;exact okS_is fB51
end Go.AM
