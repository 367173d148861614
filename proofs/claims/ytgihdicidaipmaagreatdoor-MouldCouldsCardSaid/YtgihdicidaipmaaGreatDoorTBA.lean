/-
    A part of the proof: contracts of functions.
-/
import Derived.Test.YtgihdicidaipmaaGreatDoorTAZ
import Derived.Test.YtgihdicidaipmaaGreatDoorTAP
set_option linter.unusedSectionVars false
set_option linter.unusedVariables false
set_option linter.unusedSimpArgs false
set_option maxRecDepth 100000
set_option maxHeartbeats 16000000
namespace Go.AM
open Go Go.Proofs
variable[Keep]
attribute [local irreducible] W WO WO1 WD WQ WT thenQ blockQ endR isRet retK Cl ClR
section
attribute [local irreducible] roundQ RdR patC memP grownS setP cutF birF twB
def twN(b:Bk)(A:Nat)(dayA:Int)(B:Nat)(dayB:Int)(k:Nat):List Nat:=(List.range k).filter fun m=>twB b m (mdO b m) A dayA B dayB
theorem twN_zero(b:Bk)(A:Nat)(dayA:Int)(B:Nat)(dayB:Int):twN b A dayA B dayB 0=[]:=rfl
theorem twN_next{b:Bk}{A:Nat}{dayA:Int}{B:Nat}{dayB:Int}{k:Nat}{d:Md}(h:b.moulds[k]? =some d):twN b A dayA B dayB (k+1)=if twB b k d A dayA B dayB=true then twN b A dayA B dayB k++[k]else twN b A dayA B dayB k:=by
 unfold twN;rw[List.range_succ,List.filter_append,<-mdO_is h];by_cases q:twB b k (mdO b k) A dayA B dayB=true
 ·rw[if_pos q,List.filter_cons_of_pos (by simpa using q)]
  rfl
 ·rw[if_neg q,List.filter_cons_of_neg (by simpa using q)]
  simp
theorem twN_len(b:Bk)(A:Nat)(dayA:Int)(B:Nat)(dayB:Int)(k:Nat):(twN b A dayA B dayB k).length <=k:=by
 unfold twN;have:=List.length_filter_le (fun m=>twB b m (mdO b m) A dayA B dayB) (List.range k);simpa using this
def twiceV(b:Bk)(A dayA B dayB:Int):AV:=
 if (bookB b&&(findB A dayA&&findB B dayB))=true then
  if allDays b.moulds=true then .tuple [slN (natsE (twN b A.toNat dayA B.toNat dayB b.moulds.length)),.int .i64 0]
  else .tuple [.nilslice,.int .i64 7]
 else .tuple [.nilslice,.int .i64 2]
attribute [local irreducible] twN natsE
section
variable{c:Itr}
theorem C96(cx:CxB c)(hc:c 96=none)(A dayA B dayB:Int)(i j:Nat)(h:Heap)(g1:h.get i=some (.var [.int .i64 A,.int .i64 dayA]))(g2:h.get j=some (.var [.int .i64 B,.int .i64 dayB])) :
  Cl (dX c) 96 [.ptr i 0,.ptr j 0] h (.ret (.bool (findB A dayA&&findB B dayB)) h none):=by
 refine ClR.cl ?_;have k89a:=fun h=>K89 (X:=dX c) cx.h89 A dayA h;have k89b:=fun h=>K89 (X:=dX c) cx.h89 B dayB h;obtain⟨hn,hm⟩:=h;simp only[hp_get]at g1 g2;cases h1:findB A dayA
 ·rw[h1]at k89a
  refine ClR.walk (c:=_) hc Tryz.func96 rfl (by kernel_rfl) rfl (fun e=>by cases e) ?_
  try simp only[entryEnv,Nat.reduceAdd,List.nil_append,List.cons_append,emptyHp]
  repeat' (first|refine gJ ?_|refine go1 ?_|refine uJ (k89a _) ?_|refine uJ (k89b _) ?_|(refine go2 ?_ ?_<;>intro hh)|fail)
  all_goals (simp only[rV Tryz.func96,Tryz.results96];first|exact J5|refine J6 ?_)
  all_goals simp[isR,frzRes,dX_frz,dFrz]
 ·rw[h1]at k89a
  refine ClR.walk (c:=_) hc Tryz.func96 rfl (by kernel_rfl) rfl (fun e=>by cases e) ?_
  try simp only[entryEnv,Nat.reduceAdd,List.nil_append,List.cons_append,emptyHp]
  repeat' (first|refine gJ ?_|refine go1 ?_|refine uJ (k89a _) ?_|refine uJ (k89b _) ?_|(refine go2 ?_ ?_<;>intro hh)|fail)
  all_goals (simp only[rV Tryz.func96,Tryz.results96];first|exact J5|refine J6 ?_)
  all_goals simp[isR,frzRes,dX_frz,dFrz]
theorem C38(cx:CxB c)(cx2:CxT c)(hc:c 38=none)(hc96:c 96=none)(b:Bk)(sa:AV)(hb:bkV (.agg [.int .i64 b.miss,.int .i64 b.ghost,sa])=some b)(hm:MdsV sa b.moulds)(A dayA B dayB:Int) :
  ClR (dX c) 38 [.agg [.int .i64 b.miss,.int .i64 b.ghost,sa],.agg [.int .i64 A,.int .i64 dayA],.agg [.int .i64 B,.int .i64 dayB]] emptyHp (isQ (twiceV b A dayA B dayB)):=by
 unfold twiceV;have os:=hm.out;have hcs:=hm.cells;have hts:=hm.tup;have h96:=fun hn hm'=>C96 cx hc96 A dayA B dayB 0 1 ⟨hn,hm'⟩;obtain⟨m3,hm3⟩:∃m3:Mp Blk,m3=((Mp.nil.set 0 (.var [.int .i64 A,.int .i64 dayA])).set 1 (.var [.int .i64 B,.int .i64 dayB])):=⟨_,rfl⟩;have h74:=C74 cx.toCxA b sa hb hm 96 [] [.ptr 0 0,.ptr 1 0] (findB A dayA&&findB B dayB) 2 m3 (fun _=>h96 _ _ (by rw[hm3];(simp only[Heap.get_new,Heap.get_put,hp_get,Mp.get_set,reduceIte];repeat (first|rw[if_pos rfl]|rw[if_neg (by omega)]))) (by rw[hm3];(simp only[Heap.get_new,Heap.get_put,hp_get,Mp.get_set,reduceIte];repeat (first|rw[if_pos rfl]|rw[if_neg (by omega)]))))
 unfold ClR at h74;obtain⟨r,hca,hr⟩:=h74;simp only[AV.cells]at hcs;simp only[isTuple]at hts;unfold askR at hr;rw[hm3]at hca;cases hb1:(bookB b&&(findB A dayA&&findB B dayB))with
 |false=>
  rw[hb1]at hr;simp only[Bool.false_eq_true,if_false]at hr ⊢;obtain⟨⟨zn,zm⟩,rfl,_⟩:=hr;have h2:((2:Int) !=0)=true:=rfl;unfold zeroO at hca;clear hb hm h96;refine ClR.walk (c:=_) hc Tryz.func38 rfl (by kernel_rfl) rfl isQ_fail ?_
  try simp only[entryEnv,Nat.reduceAdd,List.nil_append,List.cons_append,emptyHp]
  repeat' (first|refine goS ?_|refine uJ hca ?_|(refine go2 ?_ ?_<;>intro hh)|fail)
  all_goals (simp only[rV Tryz.func38,Tryz.results38];first|exact J5|refine J6 ?_)
  all_goals exact isQ_ret (frz_t2 (.flat rfl) (.flat rfl))
 | true =>
  rw[hb1]at hr;simp only[if_true]at hr ⊢;cases had:allDays b.moulds with
  |false=>
   rw[had]at hr;simp only[Bool.false_eq_true,if_false]at hr ⊢;obtain⟨⟨zn,zm⟩,rfl,_⟩:=hr;have h2:((7:Int) !=0)=true:=rfl;unfold zeroO at hca;clear hb hm h96;refine ClR.walk (c:=_) hc Tryz.func38 rfl (by kernel_rfl) rfl isQ_fail ?_
   try simp only[entryEnv,Nat.reduceAdd,List.nil_append,List.cons_append,emptyHp]
   repeat' (first|refine goS ?_|refine uJ hca ?_|(refine go2 ?_ ?_<;>intro hh)|fail)
   all_goals (simp only[rV Tryz.func38,Tryz.results38];first|exact J5|refine J6 ?_)
   all_goals exact isQ_ret (frz_t2 (.flat rfl) (.flat rfl))
  | true =>
   rw[had]at hr;simp only[if_true]at hr ⊢;obtain⟨dv,bv,ps,⟨zn,zm⟩,rfl,hS,hx⟩:=hr;simp only[Bool.and_eq_true]at hb1;have hO:OpO b.moulds dv bv ⟨zn,zm⟩:=⟨_,ps,hS⟩;have o1:=hS.bd.blt.out;have o2:=hS.bb.blt.out;have o3:=hS.bd.blt.cells;have o4:=hS.bb.blt.cells;have o5:=hS.bd.blt.tup;have o6:=hS.bb.blt.tup;simp only[AV.cells]at o3 o4;simp only[isTuple]at o5 o6;have h2:((0:Int) !=0)=false:=rfl;have hzn:2 <=zn:=hx.1;have q0:zm.get 0=some (.var [.int .i64 A,.int .i64 dayA]):=(hx.2 0 (by show 0<2;decide)).trans (by rw[hm3];exact J10);have q1:zm.get 1=some (.var [.int .i64 B,.int .i64 dayB]):=(hx.2 1 (by show 1<2;decide)).trans (by rw[hm3];exact J10);obtain⟨hbk,hfa,hfb⟩:=hb1;simp only[findB,inB,Bool.and_eq_true,decide_eq_true_eq]at hfa hfb;obtain⟨w,rfl⟩:∃w:Nat,A=(w:Int):=⟨A.toNat,by omega⟩;obtain⟨y,rfl⟩:∃y:Nat,B=(y:Int):=⟨B.toNat,by omega⟩;have hw:w<256:=by omega
   have hy:y<256:=by omega
   rw[Int.toNat_natCast,Int.toNat_natCast];have k97:=fun(k:Nat) (d:Md) (hd:b.moulds[k]? =some d) (hn:Nat) (hm0:Mp Blk) (hO:OpO b.moulds dv bv ⟨hn,hm0⟩)=>C97 (c:=c) cx2 b sa dv bv hbk hm k d hd w y hw hy dayA dayB hn hm0 hO;have K97:=J1 k97;have HO:=J1 hO;have hlen:=hm.len;have HML:=J1 hm.max;have HH:=J1 (twN_zero b w dayA y dayB);clear hb hm h96 hS hO k97 hx hbk hfa hfb;refine ClR.walk (c:=_) hc Tryz.func38 rfl (by kernel_rfl) rfl isQ_fail ?_
   try simp only[entryEnv,Nat.reduceAdd,List.nil_append,List.cons_append,emptyHp]
   repeat' (first|refine goS ?_|refine uJ hca ?_|(refine go2 ?_ ?_<;>intro hh)|fail)
   refine W.loopV (b.moulds.length) [4,5,8,23] [4,5,8] (fun k e lm hp=>∃u,e.get 24=some (.int .i64 ↑k)/\e.get 10=some (u)/\BltN zn hp u 1 (natsE (twN b w dayA y dayB k))/\HExt ⟨zn,zm⟩ hp) ?_ ?_
   ·skip
    refine⟨.nilslice,?_,?_,?_,HExt.refl _⟩
    ·simp[go_sem, *]
    ·simp[go_sem, *]
    ·rw[HH.out];unfold natsE;exact BltN.nil
   intro k e lm hp hk0 hce hcl hinv;simp only[keepE,and_true]at hce;obtain⟨c4,c5,c8,c23⟩:=hce;simp only[go_sem, *,Nat.reduceBEq,Nat.reduceEqDiff,reduceIte]at c4 c5 c8 c23;simp only[keepL,and_true]at hcl;obtain⟨d4,d5,d8⟩:=hcl;simp only[go_sem, *,Nat.reduceBEq,Nat.reduceEqDiff,reduceIte]at d4 d5 d8;obtain⟨u,h24,h10,hB,hXX⟩:=hinv;by_cases hlt:k<b.moulds.length
   ·have hd0:=dT hlt
    have hv_0:=wrap_succ hlt HML.out;obtain⟨d,hd⟩:=get_some hlt;obtain⟨pn,pm⟩:=hp;have k97:=K97.out k d hd pn pm (HO.out.keep hXX);unfold ClR at k97;obtain⟨r,k97,⟨wn,wm⟩,rfl,hxz⟩:=k97;have y0:pm.get 0=_:=(hXX.2 0 (by show 0<zn;omega)).trans q0;have y1:pm.get 1=_:=(hXX.2 1 (by show 1<zn;omega)).trans q1;have hB:=hB.keep hxz;have hbo1:=hB.blt.out;have hX:HExt ⟨zn,zm⟩ ⟨wn,wm⟩:=hXX.trans hxz;have hll:(natsE (twN b w dayA y dayB k)).length+1 <=most:=by
     rw[natsE_len];have:=twN_len b w dayA y dayB k;have:=HML.out;unfold most;unfold maxL at this;omega
    have hcn:=twN_next (b:=b) (A:=w) (dayA:=dayA) (B:=y) (dayB:=dayB) hd;have HLT0:=J1 hlt;have HCN:=J1 hcn;clear hXX hxz hlt hd hcn;generalize twB b k d w dayA y dayB=R at *;cases R with
    |true=>
     have hcn:=HCN.out;rw[if_pos rfl]at hcn;have HCN:=J1 hcn;clear hcn;repeat' (first|(apply WO1.appendN (t:=36) (u:=36) (e:=3) (e':=3) (sz:=1) (tl:=[]) (hb:=hB) (hx:=HExt.pair hX);exact Z1;exact rfl;exact Z2;exact Z2;exact Z2;(focus (exact ty_row36));exact Z1;(focus (intro v hv;simp at hv;subst hv;first|rfl|exact hsc));(focus (simp only[List.length_map,List.length_cons,List.length_nil];exact hll));(focus (simp));(intro v' h' hB' ho' hX';have hcc':=hB'.blt.cells;have htt':=hB'.blt.tup;simp only[AV.cells]at hcc';simp only[isTuple]at htt';simp only[pM,pN]))|refine go1 ?_|refine uJ k97 ?_|(refine go2 ?_ ?_<;>intro hh)|fail)
     all_goals refine contV_mk J9 J7 J8 ?_
     all_goals refine⟨v',?_,?_,?_,hX'⟩
     all_goals first|exact Z2|skip
     ·rw[HCN.out,natsE_app];exact hB'
    |false=>
     have hcn:=HCN.out;rw[if_neg (by decide)]at hcn;have HCN:=J1 hcn;have HB:=J1 hB;have HX:=J1 hX;clear hcn hB hX;repeat' (first|refine goS ?_|refine uJ k97 ?_|(refine go2 ?_ ?_<;>intro hh)|fail)
     all_goals refine contV_mk J9 J7 J8 ?_
     all_goals refine⟨u,?_,?_,?_,HX.out⟩
     all_goals first|exact Z2|skip
     ·rw[HCN.out];exact HB.out
   ·have hd0:=dF hlt
    obtain rfl:k=b.moulds.length:=by omega
    have hbo:=hB.blt.out;have hft:=isQ_ret (frz_t2 (b:=.int .i64 0) (hB.blt.frz natsE_sz natsE_flat) (.flat rfl));have HFT:=J1 hft;clear hXX hB hft;repeat' (first|refine goS ?_|(refine go2 ?_ ?_<;>intro hh)|fail)
    all_goals (simp only[rV Tryz.func38,Tryz.results38];first|exact J5|refine J6 ?_)
    exact HFT.out
end
end
section
attribute [local irreducible] roundQ RdR patC memP grownS setP cutF birF houN
def confP(b:Bk)(one oth:Int)(w:Nat):Bool:=(houN b.miss b.ghost b.moulds one.toNat (mdAt b one) w 99 !=0)&&(houN b.miss b.ghost b.moulds oth.toNat (mdAt b oth) w 99 !=0)
theorem conf_no{p:Nat->Bool}{k:Nat}(h:∀j,j<k->p j=false)(hk:p k=false):∀j,j<k+1->p j=false:=fun j hj=>by
 by_cases e:j=k
 ·subst e;exact hk
 ·exact h j (by omega)
theorem conf_at{p:Nat->Bool}{k n:Nat}(hn:k<n)(h:∀j,j<k->p j=false)(hk:p k=true):(List.range n).find? p=some k:=by
 rw[List.find?_eq_some_iff_getElem];refine⟨hk,k,by simpa using hn,by simp,fun j hj=>?_⟩;simp[h j hj]
def confV(b:Bk)(one oth:Int):AV:=
 if (bookB b&&(numB b.moulds one&&numB b.moulds oth&&(one !=oth)))=true then
  if allDays b.moulds=true then (match (List.range 256).find? (confP b one oth)with|some s=>.tuple [.int .i64 (s:Int),.int .i64 0]|none=>.tuple [.int .i64 0,.int .i64 5])
  else .tuple [.int .i64 0,.int .i64 7]
 else .tuple [.int .i64 0,.int .i64 2]
attribute [local irreducible] confP
section
variable{c:Itr}
theorem C107(cx:CxB c)(hc:c 107=none){a:AV}{cs:List AV}{b:Bk}(hb:bkV a=some b)(ha:a= .agg cs)(one oth:Int)(i j k:Nat)(h:Heap)(g0:h.get i=some (.var cs))(g1:h.get j=some (.var [.int .i64 one]))(g2:h.get k=some (.var [.int .i64 oth])) :
  Cl (dX c) 107 [.ptr i 0,.ptr j 0,.ptr k 0] h (.ret (.bool (numB b.moulds one&&numB b.moulds oth&&(one !=oth))) h none):=by
 refine ClR.cl ?_;have k76a:=fun h=>K76 (X:=dX c) cx.h76 hb one h;have k76b:=fun h=>K76 (X:=dX c) cx.h76 hb oth h;subst ha;obtain⟨hn,hm⟩:=h;obtain⟨sa,hsa,hmd⟩:=bk_is hb;have hsa:=AV.agg.inj hsa;subst hsa;have os:=hmd.out;simp only[hp_get]at g0 g1 g2;generalize hne:(one !=oth)=ne;clear hb hmd;cases h1:numB b.moulds one
 ·rw[h1]at k76a
  refine ClR.walk (c:=_) hc Tryz.func107 rfl (by kernel_rfl) rfl (fun e=>by cases e) ?_
  try simp only[entryEnv,Nat.reduceAdd,List.nil_append,List.cons_append,emptyHp]
  repeat' (first|refine gJ ?_|refine go1 ?_|refine uJ (k76a _) ?_|refine uJ (k76b _) ?_|(refine go2 ?_ ?_<;>intro hh)|fail)
  all_goals (simp only[rV Tryz.func107,Tryz.results107];first|exact J5|refine J6 ?_)
  all_goals simp[isR,frzRes,dX_frz,dFrz]
 ·rw[h1]at k76a
  cases h2:numB b.moulds oth
  ·rw[h2]at k76b
   refine ClR.walk (c:=_) hc Tryz.func107 rfl (by kernel_rfl) rfl (fun e=>by cases e) ?_
   try simp only[entryEnv,Nat.reduceAdd,List.nil_append,List.cons_append,emptyHp]
   repeat' (first|refine gJ ?_|refine go1 ?_|refine uJ (k76a _) ?_|refine uJ (k76b _) ?_|(refine go2 ?_ ?_<;>intro hh)|fail)
   all_goals (simp only[rV Tryz.func107,Tryz.results107];first|exact J5|refine J6 ?_)
   all_goals simp[isR,frzRes,dX_frz,dFrz]
  ·rw[h2]at k76b
   refine ClR.walk (c:=_) hc Tryz.func107 rfl (by kernel_rfl) rfl (fun e=>by cases e) ?_
   try simp only[entryEnv,Nat.reduceAdd,List.nil_append,List.cons_append,emptyHp]
   repeat' (first|refine gJ ?_|refine go1 ?_|refine uJ (k76a _) ?_|refine uJ (k76b _) ?_|(refine go2 ?_ ?_<;>intro hh)|fail)
   all_goals (simp only[rV Tryz.func107,Tryz.results107];first|exact J5|refine J6 ?_)
   all_goals simp[isR,frzRes,dX_frz,dFrz]
theorem C45(cx:CxB c)(cx2:CxH c)(hc:c 45=none)(hc107:c 107=none)(hc93:c 93=none)(b:Bk)(sa:AV)(hb:bkV (.agg [.int .i64 b.miss,.int .i64 b.ghost,sa])=some b)(hm:MdsV sa b.moulds)(one oth:Int) :
  ClR (dX c) 45 [.agg [.int .i64 b.miss,.int .i64 b.ghost,sa],.int .i64 one,.int .i64 oth] emptyHp (isRet (confV b one oth)):=by
 unfold confV;have os:=hm.out;have hcs:=hm.cells;have hts:=hm.tup;have h107:=fun hn hm'=>C107 cx hc107 hb rfl one oth 0 1 2 ⟨hn,hm'⟩;obtain⟨m3,hm3⟩:∃m3:Mp Blk,m3=(((Mp.nil.set 0 (.var [.int .i64 b.miss,.int .i64 b.ghost,sa])).set 1 (.var [.int .i64 one])).set 2 (.var [.int .i64 oth])):=⟨_,rfl⟩;have h74:=C74 cx.toCxA b sa hb hm 107 [] [.ptr 0 0,.ptr 1 0,.ptr 2 0] (numB b.moulds one&&numB b.moulds oth&&(one !=oth)) 3 m3 (fun _=>h107 _ _ (by rw[hm3];(simp only[Heap.get_new,Heap.get_put,hp_get,Mp.get_set,reduceIte];repeat (first|rw[if_pos rfl]|rw[if_neg (by omega)]))) (by rw[hm3];(simp only[Heap.get_new,Heap.get_put,hp_get,Mp.get_set,reduceIte];repeat (first|rw[if_pos rfl]|rw[if_neg (by omega)]))) (by rw[hm3];(simp only[Heap.get_new,Heap.get_put,hp_get,Mp.get_set,reduceIte];repeat (first|rw[if_pos rfl]|rw[if_neg (by omega)]))))
 unfold ClR at h74;obtain⟨r,hca,hr⟩:=h74;simp only[AV.cells]at hcs;simp only[isTuple]at hts;unfold askR at hr;rw[hm3]at hca;cases hb1:(bookB b&&(numB b.moulds one&&numB b.moulds oth&&(one !=oth)))with
 |false=>
  rw[hb1]at hr;simp only[Bool.false_eq_true,if_false]at hr ⊢;obtain⟨⟨zn,zm⟩,rfl,_⟩:=hr;have h2:((2:Int) !=0)=true:=rfl;unfold zeroO at hca;clear hb hm h107;refine ClR.walk (c:=_) hc Tryz.func45 rfl (by kernel_rfl) rfl isRet_fail ?_
  try simp only[entryEnv,Nat.reduceAdd,List.nil_append,List.cons_append,emptyHp]
  repeat' (first|refine goS ?_|refine uJ hca ?_|(refine go2 ?_ ?_<;>intro hh)|fail)
  all_goals (simp only[rV Tryz.func45,Tryz.results45];first|exact J5|refine J6 ?_)
 | true =>
  rw[hb1]at hr;simp only[if_true]at hr ⊢;cases had:allDays b.moulds with
  |false=>
   rw[had]at hr;simp only[Bool.false_eq_true,if_false]at hr ⊢;obtain⟨⟨zn,zm⟩,rfl,_⟩:=hr;have h2:((7:Int) !=0)=true:=rfl;unfold zeroO at hca;clear hb hm h107;refine ClR.walk (c:=_) hc Tryz.func45 rfl (by kernel_rfl) rfl isRet_fail ?_
   try simp only[entryEnv,Nat.reduceAdd,List.nil_append,List.cons_append,emptyHp]
   repeat' (first|refine goS ?_|refine uJ hca ?_|(refine go2 ?_ ?_<;>intro hh)|fail)
   all_goals (simp only[rV Tryz.func45,Tryz.results45];first|exact J5|refine J6 ?_)
  | true =>
   rw[had]at hr;simp only[if_true]at hr ⊢;obtain⟨dv,bv,ps,⟨zn,zm⟩,rfl,hS,hx⟩:=hr;simp only[Bool.and_eq_true]at hb1;have hO:OpO b.moulds dv bv ⟨zn,zm⟩:=⟨_,ps,hS⟩;have o1:=hS.bd.blt.out;have o2:=hS.bb.blt.out;have o3:=hS.bd.blt.cells;have o4:=hS.bb.blt.cells;have o5:=hS.bd.blt.tup;have o6:=hS.bb.blt.tup;simp only[AV.cells]at o3 o4;simp only[isTuple]at o5 o6;have h2:((0:Int) !=0)=false:=rfl;have hzn:3 <=zn:=hx.1;have q0:zm.get 0=some (.var [.int .i64 b.miss,.int .i64 b.ghost,sa]):=(hx.2 0 (by show 0<3;decide)).trans (by rw[hm3];exact J10);have q1:zm.get 1=some (.var [.int .i64 one]):=(hx.2 1 (by show 1<3;decide)).trans (by rw[hm3];exact J10);have q2:zm.get 2=some (.var [.int .i64 oth]):=(hx.2 2 (by show 2<3;decide)).trans (by rw[hm3];exact J10);obtain⟨hbk,⟨hna,hnb⟩,hne⟩:=hb1;simp only[numB,inB,Bool.and_eq_true,decide_eq_true_eq]at hna hnb;obtain⟨d1,hd1⟩:=get_some (l:=b.moulds) (k:=one.toNat) (by omega);obtain⟨d2,hd2⟩:=get_some (l:=b.moulds) (k:=oth.toNat) (by omega);have hme1:((one.toNat:Nat):Int)=one:=by omega
   have hme2:((oth.toNat:Nat):Int)=oth:=by omega
   have hmd1:mdAt b one=d1:=by unfold mdAt;rw[List.getD,hd1];rfl
   have hmd2:mdAt b oth=d2:=by unfold mdAt;rw[List.getD,hd2];rfl
   have k93:=fun(w:Nat) (hw:w<256) (hp:Heap) (hO:OpO b.moulds dv bv hp)=>C93 (c:=c) cx2 hc93 b.miss b.ghost sa dv bv b.moulds one.toNat d1 (MdG.of hm hbk hd1) w hw 99 hp hO;have k93b:=fun(w:Nat) (hw:w<256) (hp:Heap) (hO:OpO b.moulds dv bv hp)=>C93 (c:=c) cx2 hc93 b.miss b.ghost sa dv bv b.moulds oth.toNat d2 (MdG.of hm hbk hd2) w hw 99 hp hO;rw[hme1]at k93;rw[hme2]at k93b;have hpp:∀w,(confP b one oth) w=((houN b.miss b.ghost b.moulds one.toNat d1 w 99 !=0)&&(houN b.miss b.ghost b.moulds oth.toNat d2 w 99 !=0)):=fun w=>by unfold confP;rw[hmd1,hmd2]
   have K93:=J1 k93;have K93b:=J1 k93b;have HPP:=J1 hpp;have HO:=J1 hO;generalize hV:(match (List.range 256).find? (confP b one oth)with|some s=>AV.tuple [.int .i64 (s:Int),.int .i64 0]|none=>AV.tuple [.int .i64 0,.int .i64 5])=V
   have HV:=J1 hV;clear hb hm h107 hS hO k93 k93b hx hbk hna hnb hne hd1 hd2 hmd1 hmd2 hV hpp;refine ClR.walk (c:=_) hc Tryz.func45 rfl (by kernel_rfl) rfl isRet_fail ?_
   try simp only[entryEnv,Nat.reduceAdd,List.nil_append,List.cons_append,emptyHp]
   repeat' (first|refine goS ?_|refine uJ hca ?_|(refine go2 ?_ ?_<;>intro hh)|fail)
   refine W.loopV (256) [4,5,8] [4,5,8] (fun k e lm hp=>e.get 20=some (.int .i64 ↑k)/\HExt ⟨zn,zm⟩ hp/\(∀j,j<k->confP b one oth j=false)) ?_ ?_
   ·skip
    refine⟨?_,HExt.refl _,fun j hj=>absurd hj (Nat.not_lt_zero _)⟩;simp[go_sem, *]
   intro k e lm hp hk0 hce hcl hinv;simp only[keepE,and_true]at hce;obtain⟨c4,c5,c8⟩:=hce;simp only[go_sem, *,Nat.reduceBEq,Nat.reduceEqDiff,reduceIte]at c4 c5 c8;simp only[keepL,and_true]at hcl;obtain⟨d4,d5,d8⟩:=hcl;simp only[go_sem, *,Nat.reduceBEq,Nat.reduceEqDiff,reduceIte]at d4 d5 d8;obtain⟨h20,hXX,hno⟩:=hinv;by_cases hlt:k<256
   ·have hd0:=dT hlt
    have hv_0:=wrap_succ hlt (by unfold maxL;omega);have hd00:decide ((k:Int)<256)=true:=by simp only[decide_eq_true_eq];omega
    have hpk:=HPP.out k;have k93:=K93.out k hlt hp (HO.out.keep hXX);unfold ClR at k93;obtain⟨r,k93,hz,rfl,hxz⟩:=k93;have k93b:=K93b.out k hlt hz ((HO.out.keep hXX).keep hxz);unfold ClR at k93b;obtain⟨r,k93b,hy,rfl,hxy⟩:=k93b;have y1:=(hXX.2 1 (by show 1<zn;omega)).trans q1;have y2:=((hXX.trans hxz).2 2 (by show 2<zn;omega)).trans q2;have HX1:=J1 (hXX.trans hxz);have HX2:=J1 ((hXX.trans hxz).trans hxy);have HNO:=J1 hno;have HLT0:=J1 hlt;obtain⟨pn,pm⟩:=hp;obtain⟨un,um⟩:=hz;obtain⟨wn,wm⟩:=hy;simp only[hp_get]at y1 y2;clear hXX hxz hxy hno hlt;generalize houN b.miss b.ghost b.moulds one.toNat d1 k 99=R1 at *;generalize houN b.miss b.ghost b.moulds oth.toNat d2 k 99=R2 at *;have b1:(((R1:Nat):Int) !=0)=(R1 !=0):=by cases R1<;>rfl
    have b2:(((R2:Nat):Int) !=0)=(R2 !=0):=by cases R2<;>rfl
    cases hr1:(R1 !=0)with
    |false=>
     rw[hr1]at b1;have hnn:∀j,j<k+1->confP b one oth j=false:=conf_no HNO.out (by rw[hpk,hr1];rfl);have HNN:=J1 hnn;clear hnn hpk hr1 k93b b2;repeat' (first|refine gJ ?_|refine go1 ?_|refine uJ k93 ?_|(refine go2 ?_ ?_<;>intro hh)|fail)
     all_goals refine contV_mk J9 J7 J8 ?_
     all_goals refine⟨?_,HX1.out,HNN.out⟩
     all_goals first|exact Z2|skip
    | true =>
     rw[hr1]at b1;cases hr2:(R2 !=0)with
     |false=>
      rw[hr2]at b2;have hnn:∀j,j<k+1->confP b one oth j=false:=conf_no HNO.out (by rw[hpk,hr1,hr2];rfl);have HNN:=J1 hnn;clear hnn hpk hr1 hr2;repeat' (first|refine gJ ?_|refine go1 ?_|refine uJ k93 ?_|refine uJ k93b ?_|(refine go2 ?_ ?_<;>intro hh)|fail)
      all_goals refine contV_mk J9 J7 J8 ?_
      all_goals refine⟨?_,HX2.out,HNN.out⟩
      all_goals first|exact Z2|skip
     |true=>
      rw[hr2]at b2;have hff:(List.range 256).find? (confP b one oth)=some k:=conf_at HLT0.out HNO.out (by rw[hpk,hr1,hr2];rfl);have hV:=HV.out;rw[hff]at hV;simp only at hV;have HV:=J1 hV;clear hV hff hpk hr1 hr2;repeat' (first|refine gJ ?_|refine go1 ?_|refine uJ k93 ?_|refine uJ k93b ?_|(refine go2 ?_ ?_<;>intro hh)|fail)
      all_goals (simp only[rV Tryz.func45,Tryz.results45];first|exact J5|refine J6 ?_)
      exact HV.out.symm▸rfl
   ·have hd0:=dF hlt
    obtain rfl:k=256:=by omega
    have hd00:decide (((256:Nat):Int)<256)=false:=rfl;have hff:(List.range 256).find? (confP b one oth)=none:=by
     rw[List.find?_eq_none];intro x hx;rw[hno x (List.mem_range.1 hx)]
     decide
    have hV:=HV.out;rw[hff]at hV;simp only at hV;have HV:=J1 hV;clear hV hff hXX hno;repeat' (first|refine goS ?_|(refine go2 ?_ ?_<;>intro hh)|fail)
    all_goals (simp only[rV Tryz.func45,Tryz.results45];first|exact J5|refine J6 ?_)
    exact HV.out.symm▸rfl
end
end
end Go.AM
