/-
    A part of the proof: contracts of functions.
-/
import Derived.Test.YtgihdicidaipmaaGreatDoorTAK
import Derived.Test.YtgihdicidaipmaaGreatDoorTAF
import Derived.Test.YtgihdicidaipmaaGreatDoorTAG
set_option linter.unusedSectionVars false
set_option linter.unusedVariables false
set_option linter.unusedSimpArgs false
set_option maxRecDepth 100000
set_option maxHeartbeats 16000000
namespace Go.AM
open Go Go.Proofs
variable[Keep]
attribute [local irreducible] W WO WO1 WD WQ WT thenQ blockQ endR isRet retK Cl ClR
section
attribute [local irreducible] roundQ RdR
open Go.Mo7 (minN or_lt)
theorem bq01(n:Nat):(n==n+1)=false:=by rw[beq_eq_false_iff_ne];omega
theorem bq10(n:Nat):(n+1==n)=false:=by rw[beq_eq_false_iff_ne];omega
theorem bq02(n:Nat):(n==n+1+1)=false:=by rw[beq_eq_false_iff_ne];omega
theorem bq20(n:Nat):(n+1+1==n)=false:=by rw[beq_eq_false_iff_ne];omega
theorem bq03(n:Nat):(n==n+1+1+1)=false:=by rw[beq_eq_false_iff_ne];omega
theorem bq30(n:Nat):(n+1+1+1==n)=false:=by rw[beq_eq_false_iff_ne];omega
theorem bq04(n:Nat):(n==n+1+1+1+1)=false:=by rw[beq_eq_false_iff_ne];omega
theorem bq40(n:Nat):(n+1+1+1+1==n)=false:=by rw[beq_eq_false_iff_ne];omega
theorem bq05(n:Nat):(n==n+1+1+1+1+1)=false:=by rw[beq_eq_false_iff_ne];omega
theorem bq50(n:Nat):(n+1+1+1+1+1==n)=false:=by rw[beq_eq_false_iff_ne];omega
theorem bq06(n:Nat):(n==n+1+1+1+1+1+1)=false:=by rw[beq_eq_false_iff_ne];omega
theorem bq60(n:Nat):(n+1+1+1+1+1+1==n)=false:=by rw[beq_eq_false_iff_ne];omega
theorem bq07(n:Nat):(n==n+1+1+1+1+1+1+1)=false:=by rw[beq_eq_false_iff_ne];omega
theorem bq70(n:Nat):(n+1+1+1+1+1+1+1==n)=false:=by rw[beq_eq_false_iff_ne];omega
attribute [go_sem] bq01 bq10 bq02 bq20 bq03 bq30 bq04 bq40 bq05 bq50 bq06 bq60 bq07 bq70
def setP(p:Nat->Bool)(x:Nat):Nat->Bool:=fun y=>p y||y==x
theorem splice_pat(p:Nat->Bool){x:Nat}(h:x<256):splice (patC p) x [.bool true]=patC (setP p x):=by
 unfold splice;apply List.ext_getElem?;intro i;have hl:(patC p).length=256:=pat_len p;by_cases h1:i<x
 ·rw[List.getElem?_append_left (by simp[hl];omega),List.getElem?_take,if_pos h1,pat_at p (by omega),pat_at _ (by omega)]
  have:¬i=x:=by omega
  simp[setP,this]
 ·rw[List.getElem?_append_right (by simp[hl];omega)]
  simp only[List.length_take,hl,Nat.min_eq_left (Nat.le_of_lt h)];by_cases h2:i=x
  ·subst h2
   rw[pat_at _ h];simp[setP]
  ·obtain⟨j,hj⟩:∃j,i - x=j+1:=⟨i - x - 1,by omega⟩
   rw[hj,List.cons_append,List.getElem?_cons_succ,List.nil_append,List.getElem?_drop];have e:x+[AV.bool true].length+j=i:=by simp;omega
   rw[e];by_cases h3:i<256
   ·rw[pat_at p h3,pat_at _ h3]
    simp[setP,h2]
   ·rw[List.getElem?_eq_none (by rw[hl];omega),List.getElem?_eq_none (by rw[pat_len];omega)]
theorem splice_pat2(p:Nat->Bool){x:Nat}(h:x<256):List.take x (patC p)++AV.bool true::List.drop (x+1) (patC p)=patC (setP p x):=splice_pat p h
def subOk(su ca x:Nat):Bool:=minN x ca==0&&minN su x==0
def grownS(su ca n:Nat)(o:Nat->Bool):Nat->(Nat->Bool)
 |0=>o
 |k+1=>if subOk su ca k=true then setP (grownS su ca n o k) (n ||| k)else grownS su ca n o k
theorem grownS_next(su ca n:Nat)(o:Nat->Bool)(k:Nat):grownS su ca n o (k+1)=if subOk su ca k=true then setP (grownS su ca n o k) (n ||| k)else grownS su ca n o k:=rfl
def stepG(su ca n:Nat)(o:Nat->Bool):(Nat->Bool)×Bool:=(grownS su ca n o 256,true)
def grownF(su ca:Nat)(bp o:Nat->Bool):Nat->Bool:=(memP bp 256).foldl (fun o n=>grownS su ca n o 256) o
theorem foldS_all{α σ:Type}(f:σ->α->σ):∀(l:List α) (s:σ),foldS (fun y s=>(f s y,true)) l s=(l.foldl f s,true)
 | [],s=>rfl
 |x::l,s=>by simp only[foldS,if_true,List.foldl_cons];exact foldS_all f l (f s x)
def GrI(oid:Nat)(h0:Heap)(o:Nat->Bool)(h:Heap):Prop:=h.get oid=some (.var (patC o))/\h.next=h0.next/\∀id,id≠oid->h.get id=h0.get id
def NoD{σ:Type}(_:σ)(_:Heap):Prop:=False
theorem row_idx{h:Heap}{id n k:Nat}{sz:Nat}{l:List AV}{t e:TypeId}{ag:Bool}(hu:Tryz.prog.underlying t=some (.slice e))(hl:lay Tryz.prog e=some (ag,sz))(hg:h.get id=some (.rw sz l))(hk:k<n):indexAddrV Tryz.prog h t (.row id 0 n) (.int .i64 (k:Int))=some (.eptr id sz k 0):=by
 have:idxV (.int .i64 (k:Int)) n=some k:=by simp[idxV];omega
 simp only[indexAddrV,hu,hl,this,hg,if_true,Nat.zero_add]
def grownR(h:Heap)(oid:Nat)(o:Nat->Bool)(r:COut):Prop:=∃h',r= .ret (.tuple []) h' none/\h'.get oid=some (.var (patC o))/\h.next <=h'.next/\∀id,id<h.next->id≠oid->h'.get id=h.get id
theorem grownR_fail{h:Heap}{oid:Nat}{o:Nat->Bool}:¬grownR h oid o .fail:=by rintro⟨_,e,_⟩;cases e
attribute [local irreducible] patC memP grownS setP
section
variable{c:Itr}
theorem C163(hc:c 163=none)(hc1:c 137=none)(h136:(dX c).intr 136=some (flatFnD sp136))(mi gh:Int)(sa dv:AV)(od:outV (some dv)=some dv)(hdc:dv.cells=[dv])(l:List Md)(hm:MdsV sa l)(m:Nat)(d:Md)(hd:l[m]? =some d)(hok:spotsOk d.marks=true)(s:Int)
  (hn:Nat) (hm0:Mp Blk) (rid nb:Nat) (els:List AV) (pid oid:Nat) (bp o:Nat->Bool) (hmn:m<nb) (g1:hm0.get rid=some (.rw 1 els)) (g2:els[m]? =some (.ptr pid 0)) (g3:hm0.get pid=some (.var (patC bp))) (g4:hm0.get oid=some (.var (patC o)))
  (ne:pid≠oid) (l1:rid<hn) (l2:pid<hn) (l3:oid<hn) :
  ClR (dX c) 163 [.agg [.int .i64 mi,.int .i64 gh,sa,dv,.row rid 0 nb],.int .i64 (m:Int),.int .i64 s,.ptr oid 0] ⟨hn,hm0⟩ (grownR ⟨hn,hm0⟩ oid (grownF (sureM d.marks s) (canM d.marks s) bp o)):=by
 have os:=hm.out;obtain⟨ma,la,v1,v2,hix⟩:=hm.elem m d hd;have om:=sl_out v1;have ol:=sl_out v2;have hcs:=hm.cells;have hts:=hm.tup;have k136:=fun h=>K136 (X:=dX c) h136 (p:=d.parent) (clo:=d.clo) (chi:=d.chi) v1 v2 hok s h;have b1:=(maskS_nat hok s).2;have b2:=(maskC_nat hok s).2;have hib:=fun hx (e:Heap.get hx rid=some (.rw 1 els))=>row_idx (t:=111) (e:=161) Tryz.underlying111 ty_lay161 e hmn;generalize sureM d.marks s=su at *;generalize canM d.marks s=ca at *;have HF:=J1 (show grownF su ca bp o=(foldS (fun n o=>(grownS su ca n o 256,true)) (memP bp 256) o).1 by rw[foldS_all];rfl);rw[HF.out];clear hm hd hok v1 v2 hcs hts;have hib0:=hib _ (show Heap.get ⟨hn+1+1+1,(((hm0.set hn (.var [.ptr oid 0])).set (hn+1) (.var [.int .i64 0])).set (hn+1+1) (.var [.int .i64 0])).set (hn+1) (.var [.int .i64 su]) |>.set (hn+1+1) (.var [.int .i64 ca])⟩ rid=_ by(simp only[Heap.get_new,Heap.get_put,hp_get,Mp.get_set,reduceIte];repeat (first|rw[if_pos rfl]|rw[if_neg (by omega)]));exact g1)
 have r1:(hn==rid)=false:=by rw[beq_eq_false_iff_ne];omega
 have r2:(hn+1==rid)=false:=by rw[beq_eq_false_iff_ne];omega
 have r3:(hn+1+1==rid)=false:=by rw[beq_eq_false_iff_ne];omega
 have hz1:hm0.get rid=some (.rw 1 els):=g1;refine ClR.walk (c:=_) hc Tryz.func163 rfl (by kernel_rfl) rfl grownR_fail ?_
 try simp only[entryEnv,Nat.reduceAdd,List.nil_append,List.cons_append,emptyHp]
 repeat' (first|refine goS ?_|refine uJ (k136 _) ?_|(refine go2 ?_ ?_<;>intro hh)|fail)
 refine W.rangeSt (fid:=137) (first:=[.ptr pid 0]) (capt:=[]) (GrI oid) NoD (foldS (fun n o=>(grownS su ca n o 256,true)) (memP bp 256) o) rfl ?_ ?_ ?_ ?_ ?_
 ·first|exact Z2|exact Z1
 ·refine C137 _ _ _ hc1 bp pid (hn+1+1+1) ?_ ?_ o _ ⟨?_,rfl,fun _ _=>rfl⟩
  ·intro s h hs
   rw[hs.2.2 pid ne]
   (simp only[Heap.get_new,Heap.get_put,hp_get,Mp.get_set,reduceIte];repeat (first|rw[if_pos rfl]|rw[if_neg (by omega)]))
   exact g3
  ·intro n s h hn1 hn2 hs
   have hL0:=hs.2.2 (hn+1+1+1) (by omega);rw[Heap.get_new,if_pos rfl]at hL0;obtain⟨er,hE,hL⟩:∃er,er=_/\h.get (hn+1+1+1)=some (.loop 163 er _ _ _ .ready none):=⟨_,rfl,hL0⟩;clear hL0;have r7:er.get 7=some (.ptr hn 0):=by rw[hE,Mp.get_map];simp[go_sem, *,noBox]
   have r8:er.get 8=some (.ptr (hn+1) 0):=by rw[hE,Mp.get_map];simp[go_sem, *,noBox]
   have r9:er.get 9=some (.ptr (hn+1+1) 0):=by rw[hE,Mp.get_map];simp[go_sem, *,noBox]
   obtain⟨hs1,hs2,hs3⟩:=hs;have q7:h.get hn=some (.var [.ptr oid 0]):=by rw[hs3 hn (by omega)];exact J10
   have q8:h.get (hn+1)=some (.var [.int .i64 (su:Int)]):=by rw[hs3 (hn+1) (by omega)];exact J10
   have q9:h.get (hn+1+1)=some (.var [.int .i64 (ca:Int)]):=by rw[hs3 (hn+1+1) (by omega)];exact J10
   generalize Heap.new _ _=H0 at *;refine round_ok' hL rfl ?_;have HL:=J1 hL;clear hL hE;repeat' (first|refine goS ?_|(refine go2 ?_ ?_<;>intro hh)|fail)
   rintro⟨qn,qm⟩ hqn hqg hqL;have z7:=(hqg hn (by omega)).trans q7;have z8:=(hqg (hn+1) (by omega)).trans q8;have z9:=(hqg (hn+1+1) (by omega)).trans q9;have zo:=(hqg oid (by omega)).trans hs1;have HQN:=J1 hqn;have HQG:=J1 hqg;have HQL:=J1 hqL;simp only[hp_get]at z7 z8 z9 zo;clear hqn hqg hqL q7 q8 q9 hs1;have hg0:grownS su ca n s 0=s:=by unfold grownS;rfl
   have HG0:=J1 hg0;have HNE:=J1 hn1;clear hg0 hn2 hn1;repeat' (first|refine goS ?_|(refine go2 ?_ ?_<;>intro hh)|fail)
   refine W.loopV (256) [7,8,9,10] [] (fun k e lm hp=>e.get 30=some (.int .i64 ↑k)/\hp.get oid=some (.var (patC (grownS su ca n s k)))/\hp.next=qn/\(∀id,id≠oid->hp.get id=qm.get id)) ?_ ?_
   ·skip
    refine⟨?_,?_,rfl,fun _ _=>rfl⟩;all_goals first|exact Z2|(simp[go_sem, *];done)|skip
    all_goals (rw[HG0.out];exact zo)
   intro k e lm hp hk0 hce hcl hinv;simp only[keepE,and_true]at hce;obtain⟨c7,c8,c9,c10⟩:=hce;simp only[go_sem, *,Nat.reduceBEq,Nat.reduceEqDiff,reduceIte]at c7 c8 c9 c10;clear hcl;obtain⟨h30,zo,znx,zk⟩:=hinv;by_cases hlt:k<256
   ·have hd0:=dT hlt
    have hv_0:=wrap_succ hlt (by unfold maxL;omega);obtain⟨pn,pm⟩:=hp;simp only[hp_get]at zo zk;simp only at znx;subst znx;have y7:=(zk hn (by omega)).trans z7;have y8:=(zk (hn+1) (by omega)).trans z8;have y9:=(zk (hn+1+1) (by omega)).trans z9;have hd00:decide ((k:Int)<256)=true:=by simp only[decide_eq_true_eq];omega
    have on1:=op_not (a:=k) (b:=ca) (by omega) (by omega);have on2:=op_not (a:=su) (b:=k) (by omega) (by omega);have oo:=op_or (a:=n) (b:=k) (by have:=HNE.out;omega) (by omega);have hor:=or_lt HNE.out hlt;have hpi:=fun H=>pat_idx H oid hor;have hsp:=splice_pat2 (grownS su ca n s k) hor;have HSP:=J1 hsp;clear hsp;have hpl:=pat_len (grownS su ca n s k);have hnx:=grownS_next su ca n s k;unfold subOk at hnx;have ZK:=J1 zk;have HNX:=J1 hnx;have HLT0:=J1 hlt;clear zk hlt hnx;generalize minN k ca=A at *;generalize minN su k=B at *;have eA:(((A:Nat):Int)==0)=(A==0):=by cases A<;>rfl
    have eB:(((B:Nat):Int)==0)=(B==0):=by cases B<;>rfl
    cases hA:(A==0)with
    |false=>
     rw[hA]at eA;have hnx:=HNX.out;rw[hA]at hnx;simp only[Bool.false_and,Bool.false_eq_true,if_false]at hnx;have HNX:=J1 hnx;clear hnx;repeat' (first|refine gJ ?_|refine go1 ?_|(refine go2 ?_ ?_<;>intro hh)|fail)
     all_goals refine contV_mk J9 J7 J8 ?_
     all_goals refine⟨?_,?_,rfl,ZK.out⟩
     all_goals first|exact Z2|skip
     rw[HNX.out];exact zo
    | true =>
     rw[hA]at eA;cases hB:(B==0)with
     |false=>
      rw[hB]at eB;have hnx:=HNX.out;rw[hA,hB]at hnx;simp only[Bool.and_false,Bool.false_eq_true,if_false]at hnx;have HNX:=J1 hnx;clear hnx;repeat' (first|refine gJ ?_|refine go1 ?_|(refine go2 ?_ ?_<;>intro hh)|fail)
      all_goals refine contV_mk J9 J7 J8 ?_
      all_goals refine⟨?_,?_,rfl,ZK.out⟩
      all_goals first|exact Z2|skip
      rw[HNX.out];exact zo
     | true =>
      rw[hB]at eB;have hnx:=HNX.out;rw[hA,hB]at hnx;simp only[Bool.and_true,if_true]at hnx;have HNX:=J1 hnx;clear hnx;generalize n ||| k=x at *;have hle:x+1 <=256:=hor;repeat' (first|refine gJ ?_|(apply U5;exact rfl;(focus (intro cl rd;simp only[go_sem, *,Nat.reduceLT,Int.reduceEq,Int.reduceBEq,Int.reduceLE,Int.reduceLT,Nat.reduceAdd,Nat.reduceBEq,Nat.reduceEqDiff,reduceIte,Nat.reduceLeDiff,Nat.reduceMul,Nat.reduceSub,reduceCtorEq,efV,Fr.storeE,AV.cells,isTuple,write_ptr,List.length_cons,List.length_nil];with_reducible rfl));simp only[pM,pN])|refine go1 ?_|(refine go2 ?_ ?_<;>intro hh)|fail)
      all_goals refine contV_mk J9 J7 J8 ?_
      all_goals refine⟨?_,?_,rfl,?_⟩
      all_goals first|exact Z2|skip
      ·rw[HNX.out,hp_get,get_set_same,<-HSP.out]
      ·intro id hid
       rw[hp_get,Mp.get_set,if_neg (Ne.symm hid)];exact ZK.out id hid
   ·have hd0:=dF hlt
    obtain rfl:k=256:=by omega
    have hd00:decide (((256:Nat):Int)<256)=false:=by decide
    obtain⟨pn,pm⟩:=hp;simp only[hp_get]at zo zk;simp only at znx;subst znx;have hlq:=(zk (hn+1+1+1) (by omega)).trans HQL.out;repeat' (first|refine goS ?_|(refine go2 ?_ ?_<;>intro hh)|fail)
    refine round_go (s':=grownS su ca n s 256) (h:=⟨pn,pm⟩) hlq ?_ rfl ?_
    ·rfl
    refine⟨?_,?_,?_⟩
    ·(simp only[Heap.get_new,Heap.get_put,hp_get,Mp.get_set,reduceIte];repeat (first|rw[if_pos rfl]|rw[if_neg (by omega)]))
     exact zo
    ·exact HQN.out.trans hs2
    ·intro id hid
     by_cases h5:id=hn+1+1+1
     ·subst h5
      rw[Heap.get_put,if_pos rfl,<-hs3 _ hid,HL.out]
     ·rw[Heap.get_put,if_neg (fun e=>h5 e.symm),hp_get,zk _ hid,<-hp_get (n:=pn),HQG.out id h5,hs3 _ hid]
  ·(simp only[Heap.get_new,Heap.get_put,hp_get,Mp.get_set,reduceIte];repeat (first|rw[if_pos rfl]|rw[if_neg (by omega)]))
   exact g4
 ·intro s h hs
  rw[hs.2.2 (hn+1+1+1) (by omega),Heap.get_new,if_pos rfl]
 ·intro hx h hs
  obtain⟨hs1,hs2,hs3⟩:=hs;generalize hput:Heap.put h _ _=hz;have z1:hz.get oid=some (.var (patC (foldS (fun n o=>(grownS su ca n o 256,true)) (memP bp 256) o).1)):=by
   rw[<-hput,Heap.get_put,if_neg (by simp only;omega)];exact hs1
  have z2:hn <=hz.next:=by
   rw[<-hput];simp only[Heap.put,hs2,Heap.new];omega
  have z3:∀id,id<hn->id≠oid->hz.get id=hm0.get id:=fun id h1 h2=>by
   rw[<-hput,Heap.get_put,if_neg (by simp only;omega),hs3 id h2];exact J10
  have Z1:=J1 z1;have Z2:=J1 z2;have Z3:=J1 z3;clear hput hs1 hs2 hs3 z1 z2 z3 hx;simp only[bN,tN,eN];all_goals (simp only[rV Tryz.func163,Tryz.results163];first|exact J5|refine J6 ?_)
  exact⟨_,rfl,Z1.out,Z2.out,Z3.out⟩
 ·intro hx h hs
  exact hs.elim
end
end
section
attribute [local irreducible] patC
def noP:Nat->Bool:=fun _=>false
def cutF(pm:List Mk)(clo:Int)(bp:Nat->Bool):Nat->(Nat->Bool)
 |0=>noP
 |i+1=>grownF (sureM pm (clo+i)) (canM pm (clo+i)) bp (cutF pm clo bp i)
theorem cutF_succ(pm:List Mk)(clo:Int)(bp:Nat->Bool)(i:Nat):cutF pm clo bp (i+1)=grownF (sureM pm (clo+i)) (canM pm (clo+i)) bp (cutF pm clo bp i):=rfl
def cutN(d:Md):Nat:=(d.chi - d.clo+1).toNat
def birK(l:List Md)(prev:List (Nat->Bool))(d:Md):Nat->Bool:=
 if d.parent<0 then setP noP 0 else cutF (marksA l d.parent.toNat) d.clo (prev.getD d.parent.toNat noP) (cutN d)
def birL(l:List Md):Nat->List (Nat->Bool)
 |0=>[]
 |k+1=>birL l k++[birK l (birL l k) (l.getD k ⟨0,0,0,[],[]⟩)]
theorem birL_len(l:List Md):∀k,(birL l k).length=k
 |0=>rfl
 |k+1=>by simp[birL,birL_len l k]
theorem birL_next(l:List Md)(k:Nat):birL l (k+1)=birL l k++[birK l (birL l k) (l.getD k ⟨0,0,0,[],[]⟩)]:=rfl
theorem birL_pre(l:List Md){j k:Nat}(h:j<k):(birL l k)[j]? =some (birK l (birL l j) (l.getD j ⟨0,0,0,[],[]⟩)):=by
 induction k with
 |zero=>omega
 | succ k ih =>
  rw[birL_next];by_cases e:j=k
  ·subst e
   rw[List.getElem?_append_right (by rw[birL_len];omega),birL_len];simp
  ·rw[List.getElem?_append_left (by rw[birL_len];omega)]
   exact ih (by omega)
def birF(l:List Md)(j:Nat):Nat->Bool:=birK l (birL l j) (l.getD j ⟨0,0,0,[],[]⟩)
theorem birF_top{l:List Md}{j:Nat}{d:Md}(hd:l[j]? =some d)(hp:d.parent<0):birF l j=setP noP 0:=by
 unfold birF birK;rw[List.getD,hd];simp only[Option.getD_some,if_pos hp]
theorem birF_cut{l:List Md}{j:Nat}{d:Md}(hd:l[j]? =some d)(hp:¬d.parent<0)(hl:d.parent<(j:Int)):birF l j=cutF (marksA l d.parent.toNat) d.clo (birF l d.parent.toNat) (cutN d):=by
 unfold birF birK;rw[List.getD,hd];simp only[Option.getD_some,if_neg hp];have:(birL l j).getD d.parent.toNat noP=birK l (birL l d.parent.toNat) (l.getD d.parent.toNat ⟨0,0,0,[],[]⟩):=by
  rw[List.getD,birL_pre l (by omega)];rfl
 rw[this];rfl
def dayE(d:Md):AV:=slN (intsE (daysA d.loans d.loans.length))
def daysE(l:List Md)(k:Nat):List AV:=(l.take k).map dayE
def ptrsE(ps:List Nat):List AV:=ps.map fun p=>.ptr p 0
theorem daysE_next{l:List Md}{k:Nat}{d:Md}(h:l[k]? =some d):daysE l (k+1)=daysE l k++[dayE d]:=by
 unfold daysE;rw[take_next h,List.map_append];rfl
structure OpS(b:Nat)(l:List Md)(kd kb:Nat)(dv bv:AV)(ps:List Nat)(h:Heap):Prop where
 bd:BltN b h dv 1 (daysE l kd)
 bb:BltN b h bv 1 (ptrsE ps)
 sp:SepV dv bv
 ln:ps.length=kb
 pt:∀(j p:Nat),ps[j]? =some p->h.get p=some (.var (patC (birF l j)))/\b <=p/\p<h.next
 bn:b <=h.next
theorem OpS.nil{b:Nat}{l:List Md}{h:Heap}(hb:b <=h.next):OpS b l 0 0 .nilslice .nilslice [] h:=
 ⟨by unfold daysE;exact BltN.nil,BltN.nil,.nil _,rfl,fun j p e=>(by simp at e),hb⟩
section
variable{b:Nat}{l:List Md}{kd kb:Nat}{dv bv v:AV}{ps:List Nat}{h h':Heap}
theorem OpS.keep(q:OpS b l kd kb dv bv ps h)(x:HExt h h'):OpS b l kd kb dv bv ps h':=
 ⟨q.bd.keep x,q.bb.keep x,q.sp,q.ln,fun j p e=>⟨(x.2 p (q.pt j p e).2.2).trans (q.pt j p e).1,(q.pt j p e).2.1,Nat.lt_of_lt_of_le (q.pt j p e).2.2 x.1⟩,Nat.le_trans q.bn x.1⟩
theorem OpS.ptr_ne{u:AV}{sz:Nat}{es:List AV}(q:OpS b l kd kb dv bv ps h)(hu:BltN b h u sz es){j p:Nat}(e:ps[j]? =some p)(x y:Nat):u≠.row p x y:=by
 rintro rfl;have h1:=(q.pt j p e).1;rcases hu with⟨h2,_⟩|⟨id,h2,h3,_⟩
 ·cases h2
 ·cases h2
  rw[h1]at h3;cases h3
theorem OpS.day{d:Md}{n:Nat}(q:OpS b l kd kb dv bv ps h)(hd:l[kd]? =some d)(hb:BltN b h' v 1 (daysE l kd++[dayE d]))(k:Keeps h h' dv)(e:v= .row h.next 0 n):OpS b l (kd+1) kb v bv ps h':=by
 subst e;refine⟨by rw[daysE_next hd];exact hb,q.bb.apart k q.sp.symm,(SepV.new q.bb).symm,q.ln,fun j p e=>?_,Nat.le_trans q.bn k.1⟩;have:=q.pt j p e;exact⟨(k.2 p this.2.2 fun x y=>q.ptr_ne q.bd e x y).trans this.1,this.2.1,Nat.lt_of_lt_of_le this.2.2 k.1⟩
theorem OpS.bir{p n:Nat}(q:OpS b l kd kb dv bv ps h)(hp:h.get p=some (.var (patC (birF l kb))))(hb:b <=p)(hl:p<h.next)(hB:BltN b h' v 1 (ptrsE ps++[.ptr p 0]))(k:Keeps h h' bv)(e:v= .row h.next 0 n):OpS b l kd (kb+1) dv v (ps++[p]) h':=by
 subst e;have hne:∀x y,bv≠.row p x y:=by
  rintro x y rfl;rcases q.bb with⟨h2,_⟩|⟨id,h2,h3,_⟩
  ·cases h2
  ·cases h2
   rw[hp]at h3;cases h3
 refine⟨q.bd.apart k q.sp,by unfold ptrsE at *;rw[List.map_append];exact hB,SepV.new q.bd,by simp[q.ln],fun j p' e=>?_,Nat.le_trans q.bn k.1⟩;by_cases hj:j<ps.length
 ·rw[List.getElem?_append_left hj]at e
  have:=q.pt j p' e;exact⟨(k.2 p' this.2.2 fun x y=>q.ptr_ne q.bb e x y).trans this.1,this.2.1,Nat.lt_of_lt_of_le this.2.2 k.1⟩
 ·rw[List.getElem?_append_right (by omega)]at e
  have hj0:j - ps.length=0:=by
   rcases Nat.eq_zero_or_pos (j - ps.length)with h0|h0
   ·exact h0
   ·rw[List.getElem?_eq_none (by simp;omega)]at e
    cases e
  rw[hj0]at e;have e:p=p':=by simpa using e
  subst e;have hjk:j=kb:=by have:=q.ln;omega
  subst hjk;exact⟨(k.2 p hl hne).trans hp,hb,Nat.lt_of_lt_of_le hl k.1⟩
end
theorem pat_no:patC noP=List.replicate 256 (.bool false):=by unfold patC noP;rw[List.map_const',List.length_range]
def allDays(l:List Md):Bool:=l.all fun d=>daysOk d.loans
def openR(mi gh:Int)(sa:AV)(l:List Md)(h:Heap)(r:COut):Prop:=
 if allDays l=true then ∃dv bv ps h',r= .ret (.agg [.int .i64 mi,.int .i64 gh,sa,dv,bv]) h' none/\OpS h.next l l.length l.length dv bv ps h'/\HExt h h'
 else ∃h' m,r= .pan (.iface 181 (.agg [.int .i64 m])) h' none/\HExt h h'
theorem openR_fail{mi gh:Int}{sa:AV}{l:List Md}{h:Heap}:¬openR mi gh sa l h .fail:=by
 unfold openR;split
 ·rintro⟨_,_,_,_,e,_⟩;cases e
 ·rintro⟨_,_,e,_⟩;cases e
theorem openR_ret{mi gh:Int}{sa dv bv:AV}{ps:List Nat}{l:List Md}{h h':Heap}(hq:∀(k:Nat) (d:Md),l[k]? =some d->daysOk d.loans=true)(o:OpS h.next l l.length l.length dv bv ps h')(x:HExt h h'):openR mi gh sa l h (.ret (.agg [.int .i64 mi,.int .i64 gh,sa,dv,bv]) h' none):=by
 unfold openR;rw[if_pos]
 ·exact⟨dv,bv,ps,h',rfl,o,x⟩
 ·unfold allDays
  rw[List.all_eq_true];intro d hd;obtain⟨k,hk⟩:=List.mem_iff_getElem?.1 hd;exact hq k d hk
theorem openR_pan{mi gh m:Int}{sa:AV}{l:List Md}{h h':Heap}{k:Nat}{d:Md}(hd:l[k]? =some d)(hq:daysOk d.loans=false)(x:HExt h h'):openR mi gh sa l h (.pan (.iface 181 (.agg [.int .i64 m])) h' none):=by
 unfold openR;rw[if_neg]
 ·exact⟨h',m,rfl,x⟩
 ·unfold allDays
  intro h;have:=List.all_eq_true.1 h d (List.mem_of_getElem? hd);rw[hq]at this;cases this
end
end Go.AM
