/-
    A part of the proof: contracts of functions.
-/
import Derived.Test.YtgihdicidaipmaaGreatDoorTAG
set_option linter.unusedSectionVars false
set_option linter.unusedVariables false
set_option linter.unusedSimpArgs false
set_option maxRecDepth 100000
set_option maxHeartbeats 16000000
namespace Go.AM
open Go Go.Proofs
variable[Keep]
attribute [local irreducible] W WO WO1 WD WQ WT thenQ blockQ endR isRet retK Cl ClR
def mdB(p clo chi:Int)(ms:List Mk)(ls:List Ln)(n:Int):Bool:=
 inB p (-1) (IntKind.i64.wrap (n - 1))&&spB clo chi 0 36&&!decide (IntKind.i64.wrap (chi - clo)>5)&&!(decide (p<0)&&!(clo==0&&chi==0))&&decide ((ms.length:Int) <=4)&&inB ls.length 1 3&&!(ms.any badM)&&!(ls.any badL)
theorem sp_neq(a b:Int):binV Tryz.prog .neq 45 false (.agg [.int .i64 a,.int .i64 b]) (.agg [.int .i64 0,.int .i64 0])=some (.bool (!(a==0&&b==0))):=by
 have hst:Tryz.prog.stoodInHeld 45=false:=by kernel_rfl
 have e3:∀x y:Int,eqT Tryz.prog 7 3 (.int .i64 x) (.int .i64 y)=some (x==y):=fun x y=>by rw[eqT.eq_def];simp only[Tryz.underlying3,if_true]
 have h:eqT Tryz.prog 8 45 (.agg [.int .i64 a,.int .i64 b]) (.agg [.int .i64 0,.int .i64 0])=some (a==0&&b==0):=by
  rw[eqT.eq_def];simp only[Tryz.underlying45,hst,Bool.false_eq_true,if_false];generalize eqT Tryz.prog 7=f at *;simp[eqFields,readT,readAt,ty_lay3,e3];cases a==0<;>cases b==0<;>rfl
 have hgd:Tryz.prog.eqGuardType Tryz.prog.depth 45=false:=by kernel_rfl
 simp only[binV,eqOp,eqV,eqDepth,h,hgd,Bool.false_eq_true,if_false]
section
variable{c:Itr}
theorem C148(hc:c 148=none)(h174:c 174=none)(h187:c 187=none)(h176:c 176=none)(h188:c 188=none)(h175:c 175=none)(h177:c 177=none)(h119:(dX c).intr 119=some (pureFn sp119))(h173:(dX c).intr 173=some (pureFn sp173))
  (p clo chi:Int) (ma la:AV) (ms:List Mk) (ls:List Ln) (hm:slV mkC ma=some ms) (hl:slV lnC la=some ls) (n:Int) (h:Heap) :
  Cl (dX c) 148 [.agg [.int .i64 p,.int .i64 clo,.int .i64 chi,ma,la],.int .i64 n] h (.ret (.bool (mdB p clo chi ms ls n)) h none):=by
 refine ClR.cl ?_;have om:=sl_out hm;have lm0:=sl_len hm;have ol:=sl_out hl;have ll0:=sl_len hl;have k174:=fun h=>C174 (c:=c) h187 h174 ma ms hm 175 [] [] badM h (fun x _=>C175 h175 h119 h173 x h);have k176:=fun h=>C176 (c:=c) h188 h176 la ls hl 177 [] [] badL h (fun x _=>C177 h177 h119 h173 x h);clear hm hl;have hne:=sp_neq clo chi;cases h1:inB p (-1) (IntKind.i64.wrap (n - 1))
 ·skip
  refine ClR.walk (c:=_) hc Tryz.func148 rfl (by kernel_rfl) rfl (fun e=>by cases e) ?_
  try simp only[entryEnv,Nat.reduceAdd,List.nil_append,List.cons_append,emptyHp]
  repeat' (first|refine gJ ?_|refine go1 ?_|refine uJ (K119 h119 _ _ _ _) ?_|(refine go2 ?_ ?_<;>intro hh)|fail)
  all_goals (simp only[rV Tryz.func148,Tryz.results148];first|exact J5|refine J6 ?_)
  all_goals simp[isR,frzRes,dX_frz,dFrz,mdB,h1]
 cases h2:spB clo chi 0 36
 ·skip
  refine ClR.walk (c:=_) hc Tryz.func148 rfl (by kernel_rfl) rfl (fun e=>by cases e) ?_
  try simp only[entryEnv,Nat.reduceAdd,List.nil_append,List.cons_append,emptyHp]
  repeat' (first|refine gJ ?_|refine go1 ?_|refine uJ (K119 h119 _ _ _ _) ?_|refine uJ (K173 h173 _ _ _ _ _) ?_|(refine go2 ?_ ?_<;>intro hh)|fail)
  all_goals (simp only[rV Tryz.func148,Tryz.results148];first|exact J5|refine J6 ?_)
  all_goals simp[isR,frzRes,dX_frz,dFrz,mdB,h1,h2]
 cases h3:decide (IntKind.i64.wrap (chi - clo)>5)
 rotate_left
 ·skip
  refine ClR.walk (c:=_) hc Tryz.func148 rfl (by kernel_rfl) rfl (fun e=>by cases e) ?_
  try simp only[entryEnv,Nat.reduceAdd,List.nil_append,List.cons_append,emptyHp]
  repeat' (first|refine gJ ?_|refine go1 ?_|refine uJ (K119 h119 _ _ _ _) ?_|refine uJ (K173 h173 _ _ _ _ _) ?_|(refine go2 ?_ ?_<;>intro hh)|fail)
  all_goals (simp only[rV Tryz.func148,Tryz.results148];first|exact J5|refine J6 ?_)
  all_goals simp[isR,frzRes,dX_frz,dFrz,mdB,h1,h2,h3]
 cases h4:decide (p<0)<;>cases h5:(clo==0&&chi==0);all_goals rw[h5]at hne
 ·cases h6:decide ((ms.length:Int) <=4)
  ·skip
   refine ClR.walk (c:=_) hc Tryz.func148 rfl (by kernel_rfl) rfl (fun e=>by cases e) ?_
   try simp only[entryEnv,Nat.reduceAdd,List.nil_append,List.cons_append,emptyHp]
   repeat' (first|refine gJ ?_|refine go1 ?_|refine uJ (K119 h119 _ _ _ _) ?_|refine uJ (K173 h173 _ _ _ _ _) ?_|(refine go2 ?_ ?_<;>intro hh)|fail)
   all_goals (simp only[rV Tryz.func148,Tryz.results148];first|exact J5|refine J6 ?_)
   all_goals simp[isR,frzRes,dX_frz,dFrz,mdB,h1,h2,h3,h4,h5,h6]
  cases h7:inB ls.length 1 3
  ·skip
   refine ClR.walk (c:=_) hc Tryz.func148 rfl (by kernel_rfl) rfl (fun e=>by cases e) ?_
   try simp only[entryEnv,Nat.reduceAdd,List.nil_append,List.cons_append,emptyHp]
   repeat' (first|refine gJ ?_|refine go1 ?_|refine uJ (K119 h119 _ _ _ _) ?_|refine uJ (K173 h173 _ _ _ _ _) ?_|(refine go2 ?_ ?_<;>intro hh)|fail)
   all_goals (simp only[rV Tryz.func148,Tryz.results148];first|exact J5|refine J6 ?_)
   all_goals simp[isR,frzRes,dX_frz,dFrz,mdB,h1,h2,h3,h4,h5,h6,h7]
  cases h8:ms.any badM
  rotate_left
  ·skip
   refine ClR.walk (c:=_) hc Tryz.func148 rfl (by kernel_rfl) rfl (fun e=>by cases e) ?_
   try simp only[entryEnv,Nat.reduceAdd,List.nil_append,List.cons_append,emptyHp]
   repeat' (first|refine gJ ?_|refine go1 ?_|refine uJ (K119 h119 _ _ _ _) ?_|refine uJ (K173 h173 _ _ _ _ _) ?_|refine uJ (k174 _) ?_|(refine go2 ?_ ?_<;>intro hh)|fail)
   all_goals (simp only[rV Tryz.func148,Tryz.results148];first|exact J5|refine J6 ?_)
   all_goals simp[isR,frzRes,dX_frz,dFrz,mdB,h1,h2,h3,h4,h5,h6,h7,h8]
  ·skip
   refine ClR.walk (c:=_) hc Tryz.func148 rfl (by kernel_rfl) rfl (fun e=>by cases e) ?_
   try simp only[entryEnv,Nat.reduceAdd,List.nil_append,List.cons_append,emptyHp]
   repeat' (first|refine gJ ?_|refine go1 ?_|refine uJ (K119 h119 _ _ _ _) ?_|refine uJ (K173 h173 _ _ _ _ _) ?_|refine uJ (k174 _) ?_|refine uJ (k176 _) ?_|(refine go2 ?_ ?_<;>intro hh)|fail)
   all_goals (simp only[rV Tryz.func148,Tryz.results148];first|exact J5|refine J6 ?_)
   all_goals simp[isR,frzRes,dX_frz,dFrz,mdB,h1,h2,h3,h4,h5,h6,h7,h8]
 ·cases h6:decide ((ms.length:Int) <=4)
  ·skip
   refine ClR.walk (c:=_) hc Tryz.func148 rfl (by kernel_rfl) rfl (fun e=>by cases e) ?_
   try simp only[entryEnv,Nat.reduceAdd,List.nil_append,List.cons_append,emptyHp]
   repeat' (first|refine gJ ?_|refine go1 ?_|refine uJ (K119 h119 _ _ _ _) ?_|refine uJ (K173 h173 _ _ _ _ _) ?_|(refine go2 ?_ ?_<;>intro hh)|fail)
   all_goals (simp only[rV Tryz.func148,Tryz.results148];first|exact J5|refine J6 ?_)
   all_goals simp[isR,frzRes,dX_frz,dFrz,mdB,h1,h2,h3,h4,h5,h6]
  cases h7:inB ls.length 1 3
  ·skip
   refine ClR.walk (c:=_) hc Tryz.func148 rfl (by kernel_rfl) rfl (fun e=>by cases e) ?_
   try simp only[entryEnv,Nat.reduceAdd,List.nil_append,List.cons_append,emptyHp]
   repeat' (first|refine gJ ?_|refine go1 ?_|refine uJ (K119 h119 _ _ _ _) ?_|refine uJ (K173 h173 _ _ _ _ _) ?_|(refine go2 ?_ ?_<;>intro hh)|fail)
   all_goals (simp only[rV Tryz.func148,Tryz.results148];first|exact J5|refine J6 ?_)
   all_goals simp[isR,frzRes,dX_frz,dFrz,mdB,h1,h2,h3,h4,h5,h6,h7]
  cases h8:ms.any badM
  rotate_left
  ·skip
   refine ClR.walk (c:=_) hc Tryz.func148 rfl (by kernel_rfl) rfl (fun e=>by cases e) ?_
   try simp only[entryEnv,Nat.reduceAdd,List.nil_append,List.cons_append,emptyHp]
   repeat' (first|refine gJ ?_|refine go1 ?_|refine uJ (K119 h119 _ _ _ _) ?_|refine uJ (K173 h173 _ _ _ _ _) ?_|refine uJ (k174 _) ?_|(refine go2 ?_ ?_<;>intro hh)|fail)
   all_goals (simp only[rV Tryz.func148,Tryz.results148];first|exact J5|refine J6 ?_)
   all_goals simp[isR,frzRes,dX_frz,dFrz,mdB,h1,h2,h3,h4,h5,h6,h7,h8]
  ·skip
   refine ClR.walk (c:=_) hc Tryz.func148 rfl (by kernel_rfl) rfl (fun e=>by cases e) ?_
   try simp only[entryEnv,Nat.reduceAdd,List.nil_append,List.cons_append,emptyHp]
   repeat' (first|refine gJ ?_|refine go1 ?_|refine uJ (K119 h119 _ _ _ _) ?_|refine uJ (K173 h173 _ _ _ _ _) ?_|refine uJ (k174 _) ?_|refine uJ (k176 _) ?_|(refine go2 ?_ ?_<;>intro hh)|fail)
   all_goals (simp only[rV Tryz.func148,Tryz.results148];first|exact J5|refine J6 ?_)
   all_goals simp[isR,frzRes,dX_frz,dFrz,mdB,h1,h2,h3,h4,h5,h6,h7,h8]
 ·skip
  refine ClR.walk (c:=_) hc Tryz.func148 rfl (by kernel_rfl) rfl (fun e=>by cases e) ?_
  try simp only[entryEnv,Nat.reduceAdd,List.nil_append,List.cons_append,emptyHp]
  repeat' (first|refine gJ ?_|refine go1 ?_|refine uJ (K119 h119 _ _ _ _) ?_|refine uJ (K173 h173 _ _ _ _ _) ?_|(refine go2 ?_ ?_<;>intro hh)|fail)
  all_goals (simp only[rV Tryz.func148,Tryz.results148];first|exact J5|refine J6 ?_)
  all_goals simp[isR,frzRes,dX_frz,dFrz,mdB,h1,h2,h3,h4,h5]
 ·cases h6:decide ((ms.length:Int) <=4)
  ·skip
   refine ClR.walk (c:=_) hc Tryz.func148 rfl (by kernel_rfl) rfl (fun e=>by cases e) ?_
   try simp only[entryEnv,Nat.reduceAdd,List.nil_append,List.cons_append,emptyHp]
   repeat' (first|refine gJ ?_|refine go1 ?_|refine uJ (K119 h119 _ _ _ _) ?_|refine uJ (K173 h173 _ _ _ _ _) ?_|(refine go2 ?_ ?_<;>intro hh)|fail)
   all_goals (simp only[rV Tryz.func148,Tryz.results148];first|exact J5|refine J6 ?_)
   all_goals simp[isR,frzRes,dX_frz,dFrz,mdB,h1,h2,h3,h4,h5,h6]
  cases h7:inB ls.length 1 3
  ·skip
   refine ClR.walk (c:=_) hc Tryz.func148 rfl (by kernel_rfl) rfl (fun e=>by cases e) ?_
   try simp only[entryEnv,Nat.reduceAdd,List.nil_append,List.cons_append,emptyHp]
   repeat' (first|refine gJ ?_|refine go1 ?_|refine uJ (K119 h119 _ _ _ _) ?_|refine uJ (K173 h173 _ _ _ _ _) ?_|(refine go2 ?_ ?_<;>intro hh)|fail)
   all_goals (simp only[rV Tryz.func148,Tryz.results148];first|exact J5|refine J6 ?_)
   all_goals simp[isR,frzRes,dX_frz,dFrz,mdB,h1,h2,h3,h4,h5,h6,h7]
  cases h8:ms.any badM
  rotate_left
  ·skip
   refine ClR.walk (c:=_) hc Tryz.func148 rfl (by kernel_rfl) rfl (fun e=>by cases e) ?_
   try simp only[entryEnv,Nat.reduceAdd,List.nil_append,List.cons_append,emptyHp]
   repeat' (first|refine gJ ?_|refine go1 ?_|refine uJ (K119 h119 _ _ _ _) ?_|refine uJ (K173 h173 _ _ _ _ _) ?_|refine uJ (k174 _) ?_|(refine go2 ?_ ?_<;>intro hh)|fail)
   all_goals (simp only[rV Tryz.func148,Tryz.results148];first|exact J5|refine J6 ?_)
   all_goals simp[isR,frzRes,dX_frz,dFrz,mdB,h1,h2,h3,h4,h5,h6,h7,h8]
  ·skip
   refine ClR.walk (c:=_) hc Tryz.func148 rfl (by kernel_rfl) rfl (fun e=>by cases e) ?_
   try simp only[entryEnv,Nat.reduceAdd,List.nil_append,List.cons_append,emptyHp]
   repeat' (first|refine gJ ?_|refine go1 ?_|refine uJ (K119 h119 _ _ _ _) ?_|refine uJ (K173 h173 _ _ _ _ _) ?_|refine uJ (k174 _) ?_|refine uJ (k176 _) ?_|(refine go2 ?_ ?_<;>intro hh)|fail)
   all_goals (simp only[rV Tryz.func148,Tryz.results148];first|exact J5|refine J6 ?_)
   all_goals simp[isR,frzRes,dX_frz,dFrz,mdB,h1,h2,h3,h4,h5,h6,h7,h8]
end
end Go.AM
