/-
    A part of the proof: contracts of functions.
-/
import Derived.Test.YtgihdicidaipmaaGreatDoorTAL
import Derived.Test.YtgihdicidaipmaaGreatDoorTAD
import Derived.Test.YtgihdicidaipmaaGreatDoorTAG
set_option linter.unusedSectionVars false
set_option linter.unusedVariables false
set_option linter.unusedSimpArgs false
set_option maxRecDepth 100000
set_option maxHeartbeats 16000000
namespace Go.AM
open Go Go.Proofs
variable[Keep]
attribute [local irreducible] W WO WO1 WD WQ WT thenQ blockQ endR isRet retK Cl ClR
section
attribute [local irreducible] patC memP grownS setP cutF birF daysR openR
theorem zero193:zeroT Tryz.prog 193=some (.agg (patC noP)):=by
 rw[pat_no]
 kernel_rfl
attribute [go_sem] zero193
section
variable{c:Itr}
theorem daysR_yes{h:Heap}{ls:List Ln}{r:COut}(hr:daysR h ls r)(hd:daysOk ls=true):∃h',r= .ret (slN (intsE (daysA ls ls.length))) h' none/\HExt h h':=by
 unfold daysR at hr;rw[if_pos hd]at hr;exact hr
theorem daysR_no{h:Heap}{ls:List Ln}{r:COut}(hr:daysR h ls r)(hd:daysOk ls=false):∃h' m,r= .pan (.iface 181 (.agg [.int .i64 m])) h' none/\HExt h h':=by
 unfold daysR at hr;rw[if_neg (by rw[hd];decide)]at hr;exact hr
theorem cutF_next2{l:List Md}{p:Nat}{ms:List Mk}(h:marksA l p=ms){clo:Int}{bp:Nat->Bool}{j:Nat}:cutF (marksA l p) clo bp (j+1)=grownF (sureM ms (clo+j)) (canM ms (clo+j)) bp (cutF (marksA l p) clo bp j):=by
 subst h;exact cutF_succ _ _ _ _
theorem C135(hc:c 135=none)(hc1:c 162=none)(hc2:c 163=none)(hc3:c 137=none)(h136:(dX c).intr 136=some (flatFnD sp136))(mi gh:Int)(sa:AV)(l:List Md)(hm:MdsV sa l)(hok:MdsOk l l.length)(h:Heap) :
  ClR (dX c) 135 [.agg [.int .i64 mi,.int .i64 gh,sa]] h (openR mi gh sa l h):=by
 have os:=hm.out;have hlen:=hm.len;have hmax:=hm.max;have hcs:=hm.cells;have hts:=hm.tup;have HM:=J1 hm;have HOK:=J1 hok;have HX:=J1 hmax;clear hm hok;refine ClR.walk (c:=_) hc Tryz.func135 rfl (by kernel_rfl) rfl openR_fail ?_
 try simp only[entryEnv,Nat.reduceAdd,List.nil_append,List.cons_append,emptyHp]
 repeat' (first|refine goS ?_|(refine go2 ?_ ?_<;>intro hh)|fail)
 refine W.loopV (l.length) [1,2,3,12,13] [1,2] (fun k e lm hp=>∃dv bv ps,e.get 14=some (.int .i64 ↑k)/\lm.get 3=some (0,[.int .i64 mi,.int .i64 gh,sa,dv,bv])/\OpS h.next l k k dv bv ps hp/\HExt h hp/\(∀(j:Nat) (d:Md),j<k->l[j]? =some d->daysOk d.loans=true)) ?_ ?_
 ·skip
  refine⟨.nilslice,.nilslice,[],?_,?_,OpS.nil (Nat.le_refl _),HExt.refl _,fun j d hj=>absurd hj (Nat.not_lt_zero _)⟩;all_goals simp[go_sem, *]
 intro k e lm hp hk0 hce hcl hinv;simp only[keepE,and_true]at hce;obtain⟨c1,c2,c3,c12,c13⟩:=hce;simp only[go_sem, *,Nat.reduceBEq,Nat.reduceEqDiff,reduceIte]at c1 c2 c3 c12 c13;simp only[keepL,and_true]at hcl;obtain⟨d1,d2⟩:=hcl;simp only[go_sem, *,Nat.reduceBEq,Nat.reduceEqDiff,reduceIte]at d1 d2;obtain⟨dv,bv,ps,h14,g3,hS,hXX,hq⟩:=hinv;by_cases hlt:k<l.length
 ·have hd0 := dT hlt
  have hv_0:=wrap_succ hlt HX.out;obtain⟨d,hd⟩:=get_some hlt;obtain⟨ma,la,v1,v2,hix⟩:=HM.out.elem _ _ hd;have om:=sl_out v1;have ol:=sl_out v2;have hcl:=C162 hc1 mi gh sa l HM.out k d hd hp;unfold ClR at hcl;obtain⟨r,hcl,hr⟩:=hcl;have HLT0:=J1 hlt;have HQ:=J1 hq;have HD:=J1 hd;have HS:=J1 hS;have HXX:=J1 hXX;clear hlt hq hd v1 v2 hS;cases hdo:daysOk d.loans with
  |false=>
   obtain⟨h1,m,rfl,hx1⟩:=daysR_no hr hdo;have hfin:=openR_pan (mi:=mi) (gh:=gh) (m:=m) (sa:=sa) HD.out hdo (HXX.out.trans hx1);have HF:=J1 hfin;clear hr hdo hx1 hfin;repeat' (first|(simp only[tP,bP,eP,true_and])|refine go1 ?_|refine uJ hcl ?_|(refine go2 ?_ ?_<;>intro hh)|fail)
   exact HF.out
  | true =>
   obtain⟨h1,rfl,hx1⟩:=daysR_yes hr hdo;have hS1:=HS.out.keep hx1;have hB:=hS1.bd;have hX:HExt h h1:=HXX.out.trans hx1;have hll:(daysE l k).length+1 <=most:=by
    have:=HX.out;have:=HLT0.out;unfold daysE most;rw[List.length_map,List.length_take];unfold maxL at *;omega
   have hsc:(dayE d).cells.length=1:=by unfold dayE;rw[(slN_is _).cells];rfl
   have hdo2:outV (some (dayE d))=some (dayE d):=(slN_is _).out;have hdc:(dayE d).cells=[dayE d]:=(slN_is _).cells;have hdt:isTuple (dayE d)=false:=(slN_is _).tup;have hob1:=hS1.bb.blt.out;have hob2:=hS1.bd.blt.out;have hob3:=hS1.bb.blt.cells;have hob4:=hS1.bb.blt.tup
   change Cl _ _ _ _ (.ret (dayE d) _ _)at hcl
   generalize hde:dayE d=de at *;simp only[AV.cells]at hdc hob3;simp only[isTuple]at hdt hob4;have HS1:=J1 hS1;have HDE:=J1 hde;have HDO:=J1 hdo;clear hr hdo hx1 hde hS1;have hqn:∀(j:Nat) (d:Md),j<k+1->l[j]? =some d->daysOk d.loans=true:=fun j e hj he=>by
    by_cases q:j=k
    ·subst q;rw[HD.out]at he;cases he;exact HDO.out
    ·exact HQ.out j e (by omega) he
   have HQN:=J1 hqn;clear hqn;have hnn:=pat_len noP;have hsp0:=splice_pat2 noP (x:=0) (by decide);have HSP0:=J1 hsp0;clear hsp0;by_cases hpar:d.parent<0
   ·have hpn:decide (d.parent<0)=true:=by simpa using hpar
    have hbf:=birF_top HD.out hpar;have HBF:=J1 hbf;clear hpar hbf;repeat' (first|(apply WO1.appendX (t:=89) (u:=89) (e:=36) (e':=36) (sz:=1) (tl:=[]) (hb:=hB) (hx:=HExt.pair hX);exact Z1;exact rfl;exact Z2;exact Z2;exact Z2;(focus (exact ty_row89));exact Z1;(focus (intro v hv;simp at hv;subst hv;first|rfl|exact hsc));(focus (simp only[List.length_map,List.length_cons,List.length_nil];exact hll));(focus (simp));(intro v' h';obtain⟨zn,zm⟩:=h';intro hB' ho' hK' hE' hX';have hcc':=hB'.blt.cells;have htt':=hB'.blt.tup;simp only[AV.cells]at hcc';simp only[isTuple]at htt';simp only[pM,pN]))|refine go1 ?_|refine uJ hcl ?_|(refine go2 ?_ ?_<;>intro hh)|fail)
    have HE1:=J1 hE';have hS2:=HS1.out.day HD.out (by rw[HDE.out];exact hB') hK' hE';have HS2:=J1 hS2;have hpi0:=fun H=>pat_idx H zn (k:=0) (by decide);have hz0:((0:Nat):Int)=0:=rfl;rw[hz0]at hpi0;have hnd:=hK'.1;clear hS2 hB hX hll hB' hK' hE';repeat' (first|(apply U5;exact rfl;(focus (intro cl rd;simp only[go_sem, *,Nat.reduceLT,Int.reduceEq,Int.reduceBEq,Int.reduceLE,Int.reduceLT,Nat.reduceAdd,Nat.reduceBEq,Nat.reduceEqDiff,reduceIte,Nat.reduceLeDiff,Nat.reduceMul,Nat.reduceSub,reduceCtorEq,efV,Fr.storeE,AV.cells,isTuple,write_ptr,List.length_cons,List.length_nil];with_reducible rfl));simp only[pM,pN])|refine go1 ?_|(refine go2 ?_ ?_<;>intro hh)|fail)
    generalize hqe:Heap.mk (zn+1) _=hq;have hq1:hq.next=zn+1:=by rw[<-hqe]
    have hq2:hq.get zn=some (.var (patC (birF l k))):=by
     rw[<-hqe,HBF.out,<-HSP0.out]
     (simp only[Heap.get_new,Heap.get_put,hp_get,Mp.get_set,reduceIte];repeat (first|rw[if_pos rfl]|rw[if_neg (by omega)]))
     rfl
    have hxq:HExt ⟨zn,zm⟩ hq:=⟨by rw[hq1];exact Nat.le_succ _,fun id hid=>by
     have hid':id<zn:=hid;rw[<-hqe];exact J10⟩
    have hB:=(HS2.out.keep hxq).bb;have hX:HExt h hq:=⟨by have:=hX'.1;have:=hxq.1;simp only at *;omega,fun id hid=>(hxq.2 id (by have:=hX'.1;simp only at *;omega)).trans (hX'.2 id hid)⟩;have hll:(ptrsE ps).length+1 <=most:=by
     have:=HX.out;have:=HLT0.out;have:=HS2.out.ln;unfold ptrsE most;rw[List.length_map];unfold maxL at *;omega
    have hbz:h.next <=zn:=hX'.1;have HQ2:=J1 hq2;have HQ1:=J1 hq1;have HXQ:=J1 hxq;have HBZ:=J1 hbz;clear hqe hq1 hq2 hxq hbz;repeat' (first|(apply WO1.appendX (t:=111) (u:=111) (e:=161) (e':=161) (sz:=1) (tl:=[]) (hb:=hB) (hx:=HExt.pair hX);exact Z1;exact rfl;exact Z2;exact Z2;exact Z2;(focus (exact ty_row111));exact Z1;(focus (intro v hv;simp at hv;subst hv;first|rfl|exact hsc));(focus (simp only[List.length_map,List.length_cons,List.length_nil];exact hll));(focus (simp));(intro w' h';obtain⟨yn,ym⟩:=h';intro hBw how hKw hEw hXw;have hccw:=hBw.blt.cells;have httw:=hBw.blt.tup;simp only[AV.cells]at hccw;simp only[isTuple]at httw;simp only[pM,pN]))|refine go1 ?_|(refine go2 ?_ ?_<;>intro hh)|fail)
    have hfin:=(HS2.out.keep HXQ.out).bir HQ2.out HBZ.out (by rw[HQ1.out];omega) hBw hKw hEw;all_goals refine contV_mk J9 J7 J8 ?_
    all_goals refine⟨v',w',ps++[zn],?_,?_,hfin,hXw,HQN.out⟩
    all_goals first|exact Z2|skip
    rw[HE1.out];simp only[go_sem, *,Nat.reduceLT,Int.reduceEq,Int.reduceBEq,Int.reduceLE,Int.reduceLT,Nat.reduceAdd,Nat.reduceBEq,Nat.reduceEqDiff,reduceIte,Nat.reduceLeDiff,Nat.reduceMul,Nat.reduceSub,reduceCtorEq]
   ·have hpn:decide (d.parent<0)=false:=by simpa using hpar
    have hmk:=mdOk_parts (by have:=HX.out;have:=HLT0.out;omega) (HOK.out k d HLT0.out HD.out);obtain⟨m1,m2,m3,m4,m5,m6⟩:=hmk;have hpe:((d.parent.toNat:Nat):Int)=d.parent:=by omega
    obtain⟨dp,hdp⟩:=get_some (l:=l) (k:=d.parent.toNat) (by have:=HLT0.out;omega);have hsk:=spots_of (n:=d.parent.toNat) (by have:=HX.out;have:=HLT0.out;omega) (HOK.out d.parent.toNat dp (by have:=HLT0.out;omega) hdp);have hmk:marksA l d.parent.toNat=dp.marks:=by unfold marksA;rw[hdp]
    have hbf:=birF_cut HD.out hpar m2;have hcn:(cutN d:Int)=d.chi - d.clo+1:=by unfold cutN;omega
    obtain⟨pid,hpid⟩:=get_some (l:=ps) (k:=d.parent.toNat) (by have:=HS1.out.ln;omega);have hne:ptrsE ps≠[]:=by
     unfold ptrsE;intro e;have e:=congrArg List.length e;have:=HS1.out.ln;simp at e;subst e;simp at hpid
    have hpt:(ptrsE ps)[d.parent.toNat]? =some (.ptr pid 0):=by unfold ptrsE;rw[List.getElem?_map,hpid];rfl
    obtain⟨rid,hbe,hbg,hbb,hbl⟩:=HS1.out.bb.row hne;subst hbe;have hne2:=hne;have HBF:=J1 hbf;have HPT:=J1 hpt;have HSK:=J1 hsk;have HMK:=J1 hmk;have HDP:=J1 hdp;have HCN:=J1 hcn;have HPID:=J1 hpid;have HPE:=J1 hpe;have HM2:=J1 m2;have HM3:=J1 m3;clear hpar m1 m2 m3 m4 m5 m6 hbf hpt hsk hmk hdp hcn hpid hpe hbg hbb hbl hne;have HNE2:=J1 hne2;clear hne2;repeat' (first|(apply WO1.appendX (t:=89) (u:=89) (e:=36) (e':=36) (sz:=1) (tl:=[]) (hb:=hB) (hx:=HExt.pair hX);exact Z1;exact rfl;exact Z2;exact Z2;exact Z2;(focus (exact ty_row89));exact Z1;(focus (intro v hv;simp at hv;subst hv;first|rfl|exact hsc));(focus (simp only[List.length_map,List.length_cons,List.length_nil];exact hll));(focus (simp));(intro v' h';obtain⟨zn,zm⟩:=h';intro hB' ho' hK' hE' hX';have hcc':=hB'.blt.cells;have htt':=hB'.blt.tup;simp only[AV.cells]at hcc';simp only[isTuple]at htt';simp only[pM,pN]))|refine go1 ?_|refine uJ hcl ?_|(refine go2 ?_ ?_<;>intro hh)|fail)
    have hS2:=HS1.out.day HD.out (by rw[HDE.out];exact hB') hK' hE';have HS2:=J1 hS2;subst hE';have hbz:h.next <=zn:=hX'.1;have hxh:HExt h ⟨zn,zm⟩:=hX';have HXH:=J1 hxh;have HBZ:=J1 hbz;clear hS2 hB hX hll hB' hK' hbz hX' hxh;refine W.loopV (cutN d) [1,2,3,5,7,12,13,14] [1,2,3,5] (fun j e1 lm1 hp1=>e1.get 8=some (.int .i64 (d.clo+(j:Int)))/\hp1.get zn=some (.var (patC (cutF (marksA l d.parent.toNat) d.clo (birF l d.parent.toNat) j)))/\HExt ⟨zn,zm⟩ hp1/\zn<hp1.next) ?_ ?_
    ·skip
     refine⟨?_,?_,?_,?_⟩
     ·rw[show d.clo+((0:Nat):Int)=d.clo from by simp];simp[go_sem, *]
     ·(simp only[Heap.get_new,Heap.get_put,hp_get,Mp.get_set,reduceIte];repeat (first|rw[if_pos rfl]|rw[if_neg (by omega)]))
      unfold cutF;rfl
     ·exact⟨Nat.le_succ _,fun id hid=>by
       have hid':id<zn:=hid;exact J10⟩
     ·exact Nat.lt_succ_self _
    intro j e1 lm1 hp1 hk1 hce hcl hinv;simp only[keepE,and_true]at hce;obtain⟨c1,c2,c3,c5,c7,c12,c13,c14⟩:=hce;simp only[go_sem, *,Nat.reduceBEq,Nat.reduceEqDiff,reduceIte]at c1 c2 c3 c5 c7 c12 c13 c14;simp only[keepL,and_true]at hcl;obtain⟨d1,d2,d3,d5⟩:=hcl;simp only[go_sem, *,Nat.reduceBEq,Nat.reduceEqDiff,reduceIte]at d1 d2 d3 d5;obtain⟨h8,hoz,hxz,hzx⟩:=hinv;by_cases hjt:j<cutN d
    ·have hd1:=dT hjt
     have hv_1:=wrap_succ hjt (by have:=HCN.out;have:=HM3.out;unfold maxL;omega);obtain⟨pn,pm⟩:=hp1;simp only[hp_get]at hoz;have hzx:zn<pn:=hzx;obtain⟨rid',hbe,hbg,hbb,hbl⟩:=HS2.out.bb.row HNE2.out;cases hbe;have hpb:=HS2.out.pt _ _ HPID.out;have hbl:rid<zn:=hbl;have hpl:pid<zn:=hpb.2.2;have hcg:=C163 hc2 hc3 h136 mi gh sa (.row h1.next 0 (daysE l k++[de]).length) rfl rfl l HM.out d.parent.toNat dp HDP.out HSK.out (d.clo+(j:Int)) pn pm rid (ptrsE ps).length (ptrsE ps) pid zn (birF l d.parent.toNat) (cutF (marksA l d.parent.toNat) d.clo (birF l d.parent.toNat) j)
      (by have:=(List.getElem?_eq_some_iff.1 HPT.out).1;exact this) ((hxz.2 rid hbl).trans hbg) HPT.out ((hxz.2 pid hpl).trans hpb.1) hoz (by omega) (by omega) (by omega) hzx
     rw[HPE.out,<-cutF_next2 HMK.out]at hcg;unfold ClR at hcg;obtain⟨r,hcg,h3,rfl,w1,w2,w3⟩:=hcg;have e8:decide (d.clo+(j:Int) <=d.chi)=true:=by have:=HCN.out;simp only[decide_eq_true_eq];omega
     have ew:IntKind.i64.wrap (d.clo+(j:Int)+1)=d.clo+((j+1:Nat):Int):=by
      have:=HCN.out;have:=HM3.out;rw[wrap_small (by omega) (by omega)];omega
     have W1:=J1 w1;have hx3:HExt ⟨zn,zm⟩ h3:=⟨Nat.le_trans (Nat.le_of_lt hzx) w2,fun id hid=>by
      have hid':id<zn:=hid;exact(w3 id (Nat.lt_trans hid' hzx) (by omega)).trans (hxz.2 id hid)⟩
     have hz3:zn<h3.next:=Nat.lt_of_lt_of_le hzx w2;have HX3:=J1 hx3;have HZ3:=J1 hz3;have HJT:=J1 hjt;clear hoz hzx hxz hbg hbb hbl hpb hpl w1 w2 w3 hx3 hz3 hjt;repeat' (first|refine goS ?_|refine uJ hcg ?_|(refine go2 ?_ ?_<;>intro hh)|fail)
     all_goals refine contV_mk (by first|assumption|exact HLT1.out|exact HLT0.out) J7 J8 ?_
     all_goals refine⟨?_,W1.out,HX3.out,HZ3.out⟩
     all_goals first|exact Z2|skip
    ·have hd1:=dF hjt
     obtain rfl:j=cutN d:=by omega
     have e8:decide (d.clo+(cutN d:Int) <=d.chi)=false:=by have:=HCN.out;simp only[decide_eq_false_iff_not];omega
     rw[<-HBF.out]at hoz;have hB:=(HS2.out.keep hxz).bb;have hX:HExt h hp1:=HXH.out.trans hxz;have hll:(ptrsE ps).length+1 <=most:=by
      have:=HX.out;have:=HLT0.out;have:=HS2.out.ln;unfold ptrsE most;rw[List.length_map];unfold maxL at *;omega
     have HOZ:=J1 hoz;have HXZ:=J1 hxz;have HZX:=J1 hzx;clear hoz hxz hzx hjt;repeat' (first|(apply WO1.appendX (t:=111) (u:=111) (e:=161) (e':=161) (sz:=1) (tl:=[]) (hb:=hB) (hx:=HExt.pair hX);exact Z1;exact rfl;exact Z2;exact Z2;exact Z2;(focus (exact ty_row111));exact Z1;(focus (intro v hv;simp at hv;subst hv;first|rfl|exact hsc));(focus (simp only[List.length_map,List.length_cons,List.length_nil];exact hll));(focus (simp));(intro w' h';obtain⟨yn,ym⟩:=h';intro hBw how hKw hEw hXw;have hccw:=hBw.blt.cells;have httw:=hBw.blt.tup;simp only[AV.cells]at hccw;simp only[isTuple]at httw;simp only[pM,pN]))|refine go1 ?_|(refine go2 ?_ ?_<;>intro hh)|fail)
     have hfin:=(HS2.out.keep HXZ.out).bir HOZ.out HBZ.out HZX.out hBw hKw hEw;all_goals refine contV_mk J9 J7 J8 ?_
     all_goals refine⟨.row h1.next 0 (daysE l k++[de]).length,w',ps++[zn],?_,?_,hfin,hXw,HQN.out⟩
     all_goals first|exact Z2|skip
 ·have hd0:=dF hlt
  obtain rfl:k=l.length:=by omega
  have hout:=hS.bd.blt.out;have HF:=J1 (openR_ret (mi:=mi) (gh:=gh) (sa:=sa) (fun j d hd=>hq j d (List.getElem?_eq_some_iff.1 hd).1 hd) hS hXX);have o1:=hS.bd.blt.out;have o2:=hS.bb.blt.out;have o3:=hS.bd.blt.cells;have o4:=hS.bb.blt.cells;clear hS hXX hq;repeat' (first|refine goS ?_|(refine go2 ?_ ?_<;>intro hh)|fail)
  all_goals (simp only[rV Tryz.func135,Tryz.results135];first|exact J5|refine J6 ?_)
  exact HF.out
end
end
section
theorem eql_nn:binV Tryz.prog .eql 20 true .niliface .niliface=some (.bool true):=by kernel_rfl
theorem eql_in(t:TypeId)(v:AV):binV Tryz.prog .eql 20 true (.iface t v) .niliface=some (.bool false):=by kernel_rfl
theorem as_181(n:Int):assertV Tryz.prog (.iface 181 (.agg [.int .i64 n])) 181 true=some (.tuple [.agg [.int .i64 n],.bool true]):=by
 simp[assertV,Tryz.underlying181]
section
variable(c:Itr)
theorem D154n(b n:Nat)(m:Mp Blk)(Q:Heap->Option AV->Prop)(q:Q ⟨n,m⟩ none):DefR (dX c) [(.func (.func 154) [] [.ptr b 0],[])] ⟨n,m⟩ none Q:=by
 have q:=J1 q;have hq1:=eql_nn;have hq2:=eql_in;refine DefR.cons (g:=154) (X:=dX c) Tryz.func154 (by kernel_rfl) rfl (by kernel_rfl) rfl ?_;simp only[entryEnv,Nat.reduceAdd,List.nil_append,List.append_nil,Option.map_none];repeat' (first|(apply U5;exact rfl;(focus (intro cl rd;simp only[go_sem, *,Nat.reduceLT,Int.reduceEq,Int.reduceBEq,Int.reduceLE,Int.reduceLT,Nat.reduceAdd,Nat.reduceBEq,Nat.reduceEqDiff,reduceIte,Nat.reduceLeDiff,Nat.reduceMul,Nat.reduceSub,reduceCtorEq,efV,Fr.callOp,Fr.builtinE,Fr.recoverE,reduceIte,Bool.false_eq_true];with_reducible rfl));simp only[pM,pN])|(simp only[endDef_norm])|refine go1 ?_|(refine go2 ?_ ?_<;>intro hh)|fail)
 refine DefR.nil ?_;exact q.out
theorem D154w(b n:Nat)(m:Mp Blk)(x z:Int)(Q:Heap->Option AV->Prop)(hg:m.get b=some (.var [.int .i64 z]))(q:∀m',(∀id,id≠b->m'.get id=m.get id)->m'.get b=some (.var [.int .i64 7])->Q ⟨n,m'⟩ none) :
  DefR (dX c) [(.func (.func 154) [] [.ptr b 0],[])] ⟨n,m⟩ (some (.iface 181 (.agg [.int .i64 x]))) Q:=by
 have q:=J1 q;have hq1:=eql_nn;have hq2:=eql_in;have hq3:=as_181;refine DefR.cons (g:=154) (X:=dX c) Tryz.func154 (by kernel_rfl) rfl (by kernel_rfl) rfl ?_;simp only[entryEnv,Nat.reduceAdd,List.nil_append,List.append_nil,Option.map_some];repeat' (first|(apply U5;exact rfl;(focus (intro cl rd;simp only[go_sem, *,Nat.reduceLT,Int.reduceEq,Int.reduceBEq,Int.reduceLE,Int.reduceLT,Nat.reduceAdd,Nat.reduceBEq,Nat.reduceEqDiff,reduceIte,Nat.reduceLeDiff,Nat.reduceMul,Nat.reduceSub,reduceCtorEq,efV,Fr.callOp,Fr.builtinE,Fr.recoverE,reduceIte,Bool.false_eq_true];with_reducible rfl));simp only[pM,pN])|(simp only[endDef_norm])|refine go1 ?_|(refine go2 ?_ ?_<;>intro hh)|fail)
 refine DefR.nil ?_;refine q.out _ (fun id hid=>?_) ?_
 ·have e1:(b==id)=false:=by rw[beq_eq_false_iff_ne];exact Ne.symm hid
  simp only[go_sem, *,Nat.reduceLT,Int.reduceEq,Int.reduceBEq,Int.reduceLE,Int.reduceLT,Nat.reduceAdd,Nat.reduceBEq,Nat.reduceEqDiff,reduceIte,Nat.reduceLeDiff,Nat.reduceMul,Nat.reduceSub,reduceCtorEq]
 ·simp only[go_sem, *,Nat.reduceLT,Int.reduceEq,Int.reduceBEq,Int.reduceLE,Int.reduceLT,Nat.reduceAdd,Nat.reduceBEq,Nat.reduceEqDiff,reduceIte,Nat.reduceLeDiff,Nat.reduceMul,Nat.reduceSub,reduceCtorEq]
def tryR(h:Heap)(h1:Heap)(z:Int)(r:COut):Prop:=∃h2,r= .ret (.int .i64 z) h2 none/\h2.next=h1.next/\∀id,id≠h.next->h2.get id=h1.get id
theorem C122n(hc:c 122=none)(g:FuncId)(caps:List AV)(hn:Nat)(hm:Mp Blk)(zn:Nat)(zm:Mp Blk)(z:Int)(hcl:Cl (dX c) g caps ⟨hn+1,hm.set hn (.var [.int .i64 0])⟩ (.ret (.tuple []) ⟨zn,zm⟩ none))(hg:zm.get hn=some (.var [.int .i64 z])) :
  ClR (dX c) 122 [.func (.func g) [] caps] ⟨hn,hm⟩ (tryR ⟨hn,hm⟩ ⟨zn,zm⟩ 0):=by
 refine ClR.walkD (c:=_) hc Tryz.func122 rfl (by kernel_rfl) rfl ?_;simp only[entryEnv,Nat.reduceAdd];repeat' (first|(apply U5;exact rfl;(focus (intro cl rd;simp only[go_sem, *,Nat.reduceLT,Int.reduceEq,Int.reduceBEq,Int.reduceLE,Int.reduceLT,Nat.reduceAdd,Nat.reduceBEq,Nat.reduceEqDiff,reduceIte,Nat.reduceLeDiff,Nat.reduceMul,Nat.reduceSub,reduceCtorEq,efV,Fr.deferE];with_reducible rfl));simp only[pM,pN])|(refine Y7 ?_;simp only[endD_ret])|refine go1 ?_|refine uJ hcl ?_|(refine go2 ?_ ?_<;>intro hh)|fail)
 refine D154n c _ _ _ _ ?_;refine afterD_none.2 ?_
 (simp only[rV Tryz.func122,Tryz.results122];first|exact J5|refine J6 ?_)
 refine⟨_,rfl,rfl,fun id hid=>?_⟩;have e1:(hn==id)=false:=by rw[beq_eq_false_iff_ne];exact Ne.symm hid
 simp only[go_sem, *,Nat.reduceLT,Int.reduceEq,Int.reduceBEq,Int.reduceLE,Int.reduceLT,Nat.reduceAdd,Nat.reduceBEq,Nat.reduceEqDiff,reduceIte,Nat.reduceLeDiff,Nat.reduceMul,Nat.reduceSub,reduceCtorEq]
theorem C122w(hc:c 122=none)(g:FuncId)(caps:List AV)(hn:Nat)(hm:Mp Blk)(zn:Nat)(zm:Mp Blk)(x z:Int)(hcl:Cl (dX c) g caps ⟨hn+1,hm.set hn (.var [.int .i64 0])⟩ (.pan (.iface 181 (.agg [.int .i64 x])) ⟨zn,zm⟩ none))(hg:zm.get hn=some (.var [.int .i64 z])) :
  ClR (dX c) 122 [.func (.func g) [] caps] ⟨hn,hm⟩ (tryR ⟨hn,hm⟩ ⟨zn,zm⟩ 7):=by
 refine ClR.walkD (c:=_) hc Tryz.func122 rfl (by kernel_rfl) rfl ?_;simp only[entryEnv,Nat.reduceAdd];repeat' (first|(apply U5;exact rfl;(focus (intro cl rd;simp only[go_sem, *,Nat.reduceLT,Int.reduceEq,Int.reduceBEq,Int.reduceLE,Int.reduceLT,Nat.reduceAdd,Nat.reduceBEq,Nat.reduceEqDiff,reduceIte,Nat.reduceLeDiff,Nat.reduceMul,Nat.reduceSub,reduceCtorEq,efV,Fr.deferE];with_reducible rfl));simp only[pM,pN])|(simp only[endD_pan])|refine go1 ?_|refine uJ hcl ?_|(refine go2 ?_ ?_<;>intro hh)|fail)
 refine D154w c _ _ _ _ _ _ hg fun m' q1 q2=>afterD_none.2 ?_
 (simp only[rV Tryz.func122,Tryz.results122];first|exact J5|refine J6 ?_)
 exact⟨_,rfl,rfl,q1⟩
end
end
section
attribute [local irreducible] patC memP grownS setP cutF birF daysR
theorem OpS.low{b b':Nat}{l:List Md}{kd kb:Nat}{dv bv:AV}{ps:List Nat}{h:Heap}(q:OpS b l kd kb dv bv ps h)(hb:b' <=b):OpS b' l kd kb dv bv ps h:=by
 refine⟨?_,?_,q.sp,q.ln,fun j p e=>⟨(q.pt j p e).1,Nat.le_trans hb (q.pt j p e).2.1,(q.pt j p e).2.2⟩,Nat.le_trans hb q.bn⟩
 ·rcases q.bd with q|⟨id,h1,h2,h3,h4⟩
  ·exact .inl q
  ·exact .inr ⟨id,h1,h2,Nat.le_trans hb h3,h4⟩
 ·rcases q.bb with q|⟨id,h1,h2,h3,h4⟩
  ·exact .inl q
  ·exact .inr ⟨id,h1,h2,Nat.le_trans hb h3,h4⟩
def in134(mi gh:Int)(sa:AV)(l:List Md)(h:Heap)(b2:Nat)(r:COut):Prop:=
 if allDays l=true then ∃dv bv ps h',r= .ret (.tuple []) h' none/\h'.get b2=some (.var [.int .i64 mi,.int .i64 gh,sa,dv,bv])/\OpS h.next l l.length l.length dv bv ps h'/\h.next <=h'.next/\∀id,id<h.next->id≠b2->h'.get id=h.get id
 else ∃h' m,r= .pan (.iface 181 (.agg [.int .i64 m])) h' none/\HExt h h'
theorem in134_fail{mi gh:Int}{sa:AV}{l:List Md}{h:Heap}{b2:Nat}:¬in134 mi gh sa l h b2 .fail:=by
 unfold in134;split
 ·rintro⟨_,_,_,_,e,_⟩;cases e
 ·rintro⟨_,_,e,_⟩;cases e
theorem OpS.put{b:Nat}{l:List Md}{kd kb:Nat}{dv bv:AV}{ps:List Nat}{h h':Heap}(q:OpS b l kd kb dv bv ps h){b2:Nat}(hb:b2<b)(hn:h'.next=h.next)(hg:∀id,id≠b2->h'.get id=h.get id):OpS b l kd kb dv bv ps h':=by
 refine⟨?_,?_,q.sp,q.ln,fun j p e=>?_,by rw[hn];exact q.bn⟩
 ·rcases q.bd with q|⟨id,h1,h2,h3,h4,h5⟩
  ·exact .inl q
  ·exact .inr ⟨id,h1,by rw[hg id (by omega)];exact h2,h3,by rw[hn];exact h4,h5⟩
 ·rcases q.bb with q|⟨id,h1,h2,h3,h4,h5⟩
  ·exact .inl q
  ·exact .inr ⟨id,h1,by rw[hg id (by omega)];exact h2,h3,by rw[hn];exact h4,h5⟩
 ·have:=q.pt j p e
  exact⟨by rw[hg p (by omega)];exact this.1,this.2.1,by rw[hn];exact this.2.2⟩
section
variable{c:Itr}
theorem C134(hc:c 134=none)(hc0:c 135=none)(hc1:c 162=none)(hc2:c 163=none)(hc3:c 137=none)(h136:(dX c).intr 136=some (flatFnD sp136))(mi gh:Int)(sa:AV)(l:List Md)(hm:MdsV sa l)(hok:MdsOk l l.length)
  (hn:Nat) (hm0:Mp Blk) (b1 b2:Nat) (o:List AV) (ho:o.length=5) (hne:b1≠b2) (l1:b1<hn) (l2:b2<hn) (g1:hm0.get b1=some (.var [.int .i64 mi,.int .i64 gh,sa])) (g2:hm0.get b2=some (.var o)) :
  ClR (dX c) 134 [.ptr b1 0,.ptr b2 0] ⟨hn,hm0⟩ (in134 mi gh sa l ⟨hn,hm0⟩ b2):=by
 have hcl:=C135 hc0 hc1 hc2 hc3 h136 mi gh sa l hm hok ⟨hn,hm0⟩;unfold ClR at hcl;obtain⟨r,hcl,hr⟩:=hcl;have hcs:=hm.cells;have hts:=hm.tup;have os:=hm.out;simp only[AV.cells]at hcs;simp only[isTuple]at hts;cases had:allDays l with
 | false =>
  unfold openR at hr;rw[if_neg (by rw[had];decide)]at hr;obtain⟨h',m,rfl,hx⟩:=hr;have HF0:in134 mi gh sa l ⟨hn,hm0⟩ b2 (.pan (.iface 181 (.agg [.int .i64 m])) h' none):=by
   unfold in134;rw[if_neg (by rw[had];decide)];exact⟨_,_,rfl,hx⟩
  have HF:=J1 HF0;clear HF0 hx had;refine ClR.walk (c:=_) hc Tryz.func134 rfl (by kernel_rfl) rfl in134_fail ?_
  try simp only[entryEnv,Nat.reduceAdd,List.nil_append,List.cons_append,emptyHp]
  repeat' (first|(simp only[tP,bP,eP,true_and])|refine go1 ?_|refine uJ hcl ?_|(refine go2 ?_ ?_<;>intro hh)|fail)
  exact HF.out
 | true =>
  unfold openR at hr;rw[if_pos had]at hr;obtain⟨dv,bv,ps,⟨zn,zm⟩,rfl,hS,hx⟩:=hr;have o1:=hS.bd.blt.out;have o2:=hS.bb.blt.out;have o3:=hS.bd.blt.cells;have o4:=hS.bb.blt.cells;have o5:=hS.bd.blt.tup;have o6:=hS.bb.blt.tup;simp only[AV.cells]at o3 o4;simp only[isTuple]at o5 o6;have q2:zm.get b2=some (.var o):=(hx.2 b2 l2).trans g2;obtain⟨x1,x2,x3,x4,x5,rfl⟩:∃x1 x2 x3 x4 x5,o=[x1,x2,x3,x4,x5]:=by
   match o,ho with
   | [x1,x2,x3,x4,x5],_=>exact⟨_,_,_,_,_,rfl⟩
  have HF0:∀h':Heap,h'.next=zn->(∀id,id≠b2->h'.get id=zm.get id)->h'.get b2=some (.var [.int .i64 mi,.int .i64 gh,sa,dv,bv])->in134 mi gh sa l ⟨hn,hm0⟩ b2 (.ret (.tuple []) h' none):=fun h' w1 w2 w3=>by
   unfold in134;rw[if_pos had];refine⟨dv,bv,ps,h',rfl,w3,hS.put l2 w1 w2,by rw[w1];exact hx.1,fun id h1 h2=>?_⟩;rw[w2 id h2];exact hx.2 id h1
  have HF:=J1 HF0;clear HF0 hx had hS;refine ClR.walk (c:=_) hc Tryz.func134 rfl (by kernel_rfl) rfl in134_fail ?_
  try simp only[entryEnv,Nat.reduceAdd,List.nil_append,List.cons_append,emptyHp]
  repeat' (first|refine goS ?_|refine uJ hcl ?_|(refine go2 ?_ ?_<;>intro hh)|fail)
  all_goals (simp only[rV Tryz.func134,Tryz.results134];first|exact J5|refine J6 ?_)
  refine HF.out _ rfl (fun id hid=>?_) ?_
  ·exact J10
  ·exact J10
end
end
end Go.AM
