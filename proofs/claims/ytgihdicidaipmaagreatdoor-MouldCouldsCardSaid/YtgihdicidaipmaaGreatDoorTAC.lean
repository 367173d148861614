/-
    A part of the proof: contracts of functions.
-/
import Derived.Test.YtgihdicidaipmaaGreatDoorTAB
import Derived.Orders
set_option linter.unusedSimpArgs false
set_option linter.unusedVariables false
set_option linter.unusedSectionVars false
namespace Go.AM
open Go
variable[Keep]
structure Mid(X:Ctx)(ops:Array Oper)(F0:Fr)(ts:List (Nat×Trace))(D:Nat->Bool)(C:Cfg)(lam:Nat->Option Nat)(ms:List Nat)(F:Fr)(b:Frame)(a:Act)(w:World)(cs:List Frame):Prop where
 st:St C lam ms F b a w cs
 at_:At X ops F0 ts ((canon ops).filter D) F
 al:∀j o s,ops[j]? =some o->isAlloc o=true->D j=false->o.dst=some s->lam s=none/\F.lm.get s=F0.lm.get s
 fn:F.f=F0.f
structure Reg(X:Ctx)(cl:FuncId->List AV->Heap->COut)(rd:Nat->List AV->Heap->COut)(ops:Array Oper)(F0:Fr)(ts:List (Nat×Trace))(AA BB:List Nat):Prop where
 ok:drawOk X F0.f ops=true
 calm:∀p∈hotPairs X F0.f ops,calmPair X F0.f ops ts p=true
 steps:StepsAt X cl rd ops F0 ts [] AA
 all:canon ops=AA++BB
 laid:∀o s t,o∈ops.toList->o.op= .alloc t->o.dst=some s->∃z g,zeroT X.P t=some z/\isTuple z=false/\F0.lm.get s=some (g,z.cells)
section
variable{X:Ctx}{cl:FuncId->List AV->Heap->COut}{rd:Nat->List AV->Heap->COut}{ops:Array Oper}{F0:Fr}{ts:List (Nat×Trace)}{AA BB A B:List Nat}{D:Nat->Bool}{i:Nat}{o:Oper}
theorem Reg.trace(g:Reg X cl rd ops F0 ts AA BB){z:Nat}(hz:z∈AA):∃A B o FA FB,AA=A++z::B/\StepAt X cl rd ops F0 ts A z o FA FB:=by
 obtain⟨A,B,e⟩:=List.append_of_mem hz;obtain⟨o,FA,FB,h⟩:=g.steps A z B e;exact⟨A,B,o,FA,FB,e,by simpa using h⟩
theorem relA(hok:drawOk X F0.f ops=true)(hc:Closed ops D)(hr:Ready ops D i)(e:canon ops=A++i::B)(ho:ops[i]? =some o){z:Nat}(hz:z∈A) :
  D z=true\/(waits ops i z=false/\∃x,ops[z]? =some x/\apartT ops x o=true/\(isEffD X F0.f x=true->isEffD X F0.f o=true->False)):=by
 cases hw:waits ops i z with
 |true=>exact .inl (hr.waits hc hw)
 |false=>
  obtain⟨A1,A2,rfl⟩:=List.append_of_mem hz;obtain⟨x,y,hx,hy,h1,h2⟩:=drawOk_pair (i:=z) (j:=i) hok (A:=A1) (B:=A2++i::B) (by rw[e];simp) (by simp) hw;rw[ho]at hy;cases hy;exact .inr ⟨rfl,x,hx,h1,h2⟩
theorem relB(hok:drawOk X F0.f ops=true)(hc:Closed ops D)(hr:Ready ops D i)(e:canon ops=A++i::B)(ho:ops[i]? =some o){z:Nat}(hz:z∈B) :
  D z=false\/(waits ops z i=false/\∃y,ops[z]? =some y/\apartT ops o y=true/\(isEffD X F0.f o=true->isEffD X F0.f y=true->False)):=by
 cases hd:D z with
 |false=>exact .inl rfl
 | true =>
  cases hw:waits ops z i with
  |true=>
   have:=hc.waits z z i (Nat.le_refl _) hd hw;rw[hr.1]at this;cases this
  |false=>
   obtain⟨x,y,hx,hy,h1,h2⟩:=drawOk_pair hok e hz hw;rw[ho]at hx;cases hx;exact .inr ⟨rfl,y,hy,h1,h2⟩
theorem mid_agree(hok:drawOk X F0.f ops=true)(hc:Closed ops D)(hr:Ready ops D i)(e:canon ops=A++i::B)(ho:ops[i]? =some o){F FA:Fr}(hF:At X ops F0 ts ((canon ops).filter D) F)(hA:At X ops F0 ts A FA):Agree ops o F FA:=by
 intro t ht;rw[hF.env,hA.env];unfold envAt;rw[e,filter_split hr.1 (p:=wrB ops t) (fun z hz hp=>?_) (fun z hz hp=>?_)]
 ·rcases relA hok hc hr e ho hz with h|⟨_,x,hx,h,_⟩
  ·exact h
  ·unfold wrB at hp
   rw[hx]at hp;exact absurd ht ((apart_spec h).1 t (by simpa using hp))
 ·rcases relB hok hc hr e ho hz with h|⟨_,y,hy,h,_⟩
  ·exact h
  ·unfold wrB at hp
   rw[hy]at hp;exact absurd ht ((apart_spec h).2.2 t (by simpa using hp))
theorem mid_eff(hok:drawOk X F0.f ops=true)(hc:Closed ops D)(hr:Ready ops D i)(e:canon ops=A++i::B)(ho:ops[i]? =some o)(he:isEffD X F0.f o=true):((canon ops).filter D).filter (efB X F0.f ops)=A.filter (efB X F0.f ops):=by
 rw[e];refine filter_split hr.1 (fun z hz hp=>?_) (fun z hz hp=>?_)
 ·rcases relA hok hc hr e ho hz with h|⟨_,x,hx,_,h⟩
  ·exact h
  ·unfold efB at hp
   rw[hx]at hp;exact(h hp he).elim
 ·rcases relB hok hc hr e ho hz with h|⟨_,y,hy,_,h⟩
  ·exact h
  ·unfold efB at hp
   rw[hy]at hp;exact(h he hp).elim
theorem mid_mem_eff(hok:drawOk X F0.f ops=true)(hc:Closed ops D)(hr:Ready ops D i)(e:canon ops=A++i::B)(ho:ops[i]? =some o)(he:isEffD X F0.f o=true):memAt X ops F0 ts ((canon ops).filter D)=memAt X ops F0 ts A:=by
 unfold memAt;rw[mid_eff hok hc hr e ho he]
theorem mid_env(hok:drawOk X F0.f ops=true)(hc:Closed ops D)(hr:Ready ops D i)(e:canon ops=A++i::B)(ho:ops[i]? =some o)(t:Tmp) :
  envAt ops F0 ts ((canon ops).filter (addD D i)) t=if o.dst=some t then some (valOf ts i)else envAt ops F0 ts ((canon ops).filter D) t:=by
 have hn:=canon_nodup (ops:=ops);rw[e]at hn;unfold envAt;rw[e,filter_add hn hr.1,filter_plain hr.1];have hw:wrB ops t i=(o.dst==some t):=by simp[wrB,ho]
 simp only[List.filter_append,List.filter_cons];by_cases h:o.dst=some t
 ·have h1:wrB ops t i=true:=by rw[hw];simpa using h
  have h2:(B.filter D).filter (wrB ops t)=[]:=by
   rw[List.filter_filter,List.filter_eq_nil_iff];intro z hz hp;simp only[Bool.and_eq_true]at hp;rcases relB hok hc hr e ho hz with h' |⟨_,y,hy,h',_⟩
   ·rw[h']at hp;simp at hp
   ·unfold wrB at hp
    rw[hy]at hp;exact(apart_spec h').2.1 t h (by simpa using hp.1)
  rw[if_pos h,h1,if_pos rfl,h2];simp
 ·have h1:wrB ops t i=false:=by rw[hw];simpa using h
  rw[if_neg h,h1];rfl
theorem mid_mem(hok:drawOk X F0.f ops=true)(hc:Closed ops D)(hr:Ready ops D i)(e:canon ops=A++i::B)(ho:ops[i]? =some o) :
  memAt X ops F0 ts ((canon ops).filter (addD D i))=if isEffD X F0.f o=true then aftOf F0 ts i else memAt X ops F0 ts ((canon ops).filter D):=by
 have hn:=canon_nodup (ops:=ops);rw[e]at hn;unfold memAt;rw[e,filter_add hn hr.1,filter_plain hr.1];have hw:efB X F0.f ops i=isEffD X F0.f o:=by simp[efB,ho]
 simp only[List.filter_append,List.filter_cons,hw];cases h:isEffD X F0.f o with
 | true =>
  have h2:(B.filter D).filter (efB X F0.f ops)=[]:=by
   rw[List.filter_filter,List.filter_eq_nil_iff];intro z hz hp;simp only[Bool.and_eq_true]at hp;rcases relB hok hc hr e ho hz with h' |⟨_,y,hy,_,h'⟩
   ·rw[h']at hp;simp at hp
   ·unfold efB at hp
    rw[hy]at hp;exact h' h hp.1
  rw[h2];simp
 |false=>simp
theorem mid_read(g:Reg X cl rd ops F0 ts AA BB)(hc:Closed ops D)(hr:Ready ops D i)(hD:∀z,D z=true->z∈AA){B':List Nat}(eA:AA=A++i::B'){FA FB F:Fr}(h:StepAt X cl rd ops F0 ts A i o FA FB)
  (hF:At X ops F0 ts ((canon ops).filter D) F) (hE:isEffD X F0.f o=false) (hl:isAlloc o=false) (hw:wantedA ops FA o=true) (hg:guardOk ops FA o=true):rdV X F o.dst o.op=rdV X FA o.dst o.op:=by
 have e:canon ops=A++i::(B'++BB):=by rw[g.all,eA];simp
 have ag:=mid_agree g.ok hc hr e h.op hF h.at_;have hEa:isEffAt X FA.f o=false:=by
  unfold isEffD at hE;rw[hl]at hE;rw[h.fn];simpa using hE
 have hst:=h.st;have hv:rdV X FA o.dst o.op=some (valOf ts i):=by
  unfold stepD stepOp at hst;rw[hl,hg,hw,hEa]at hst;simp only[Bool.not_true,Bool.false_eq_true,if_false,if_true]at hst;split at hst
  ·rename_i v hv
   cases hst;exact hv
  ·cases hst
 cases hm:mayRead o with
 |false=>exact rd_blind hm hl ag.opd
 | true =>
  have reads:∀M:Fr,F={ M with e:=F.e }->rereads X ops o ⟨FA,valOf ts i,FB⟩ M=true->rdV X F o.dst o.op=rdV X FA o.dst o.op:=fun M hM hre=>by
   unfold rereads at hre;simp only[hw,if_true]at hre;split at hre
   ·rename_i v hv'
    have:=AV.same_eq _ _ hre;subst this;rw[hv,<-hv'];exact rd_congr (fun x hx=>ag.opd x hx) (by rw[hM]) (by rw[hM])
   ·cases hre
  have hotA:∀z∈A,D z=false->∀x,ops[z]? =some x->isEffD X F0.f x=true->(z,i)∈hotPairs X F0.f ops:=fun z hz hd x hx hx'=>by
   have hwt:waits ops i z=false:=by
    rcases relA g.ok hc hr e h.op hz with h' |⟨h',_⟩
    ·rw[hd]at h';cases h'
    ·exact h'
   obtain⟨A1,A2,rfl⟩:=List.append_of_mem hz;refine List.mem_filter.2 ⟨by rw[e];exact(by simpa using loose_mem (waits ops) A1 z (A2++i::(B'++BB)) i (by simp) hwt),?_⟩;unfold hotPair;simp only[hx,h.op,hx',hm,Bool.and_self,Bool.true_or]
  have hotB:∀z∈B'++BB,D z=true->∀x,ops[z]? =some x->isEffD X F0.f x=true->(i,z)∈hotPairs X F0.f ops:=fun z hz hd x hx hx'=>by
   have hwt:waits ops z i=false:=by
    rcases relB g.ok hc hr e h.op hz with h' |⟨h',_⟩
    ·rw[hd]at h';cases h'
    ·exact h'
   refine List.mem_filter.2 ⟨by rw[e];exact loose_mem (waits ops) A i (B'++BB) z hz hwt,?_⟩;unfold hotPair;simp only[hx,h.op,hx',hm,Bool.and_self,Bool.or_true]
  have opOf:∀z,efB X F0.f ops z=true->∃x,ops[z]? =some x/\isEffD X F0.f x=true:=fun z hz=>by
   unfold efB at hz;split at hz
   ·rename_i x hx;exact⟨x,hx,hz⟩
   ·cases hz
  have chain:∀(L1 L2:List Nat) (z z':Nat),canon ops=L1++z::L2->z'∈L2->efB X F0.f ops z=true->efB X F0.f ops z'=true->D z'=true->D z=true:=fun L1 L2 z z' e1 hz h1 h2 hd=>by
   cases hwt:waits ops z' z with
   |true=>exact hc.waits z' z' z (Nat.le_refl _) hd hwt
   |false=>
    obtain⟨x,y,hx,hy,_,hne⟩:=drawOk_pair g.ok e1 hz hwt;obtain⟨x',hx',ex⟩:=opOf z h1;obtain⟨y',hy',ey⟩:=opOf z' h2;rw[hx]at hx';rw[hy]at hy';cases hx';cases hy';exact(hne ex ey).elim
  by_cases c1:∃z∈A,(efB X F0.f ops z&&!D z)=true
  ·
   obtain⟨A1,x,A2,e1,hx,hfirst⟩:=first_with _ A c1;simp only[Bool.and_eq_true,Bool.not_eq_true']at hx;obtain⟨ox,hox,hex⟩:=opOf x hx.1;obtain⟨o1,FA1,FB1,hS⟩:=g.steps A1 x (A2++i::B') (by rw[eA,e1];simp);simp only[List.nil_append]at hS;have hcalm:=g.calm _ (hotA x (by rw[e1];simp) hx.2 ox hox hex);unfold calmPair at hcalm;simp only[hox,h.op,hS.tr,h.tr,hex,if_true]at hcalm;refine reads FA1 ?_ hcalm;have hmem:memAt X ops F0 ts ((canon ops).filter D)=memAt X ops F0 ts A1:=by
    unfold memAt;have:((canon ops).filter D).filter (efB X F0.f ops)=A1.filter (efB X F0.f ops):=by
     have e2:canon ops=A1++x::(A2++i::(B'++BB)):=by rw[e,e1];simp
     rw[e2];refine filter_split hx.2 (fun z hz hp=>?_) (fun z hz hp=>?_)
     ·have:=hfirst z hz
      rw[hp]at this;simpa using this
     ·cases hd:D z with
      |false=>rfl
      |true=>
       have:=chain A1 _ x z e2 hz hx.1 hp hd;rw[hx.2]at this;cases this
    rw[this]
   have h1:=hF.mem;have h2:=hS.at_.mem;rw[hmem]at h1;rw[h1,h2]
  ·have hA:∀z∈A,efB X F0.f ops z=true->D z=true:=fun z hz hp=>by
    cases hd:D z with
    |true=>rfl
    |false=>exact absurd ⟨z,hz,by simp[hp,hd]⟩ c1
   by_cases c2:∃z∈B'++BB,(efB X F0.f ops z&&D z)=true
   ·
    obtain⟨B1,x,B2,e1,hx,hlast⟩:=last_with _ _ c2;simp only[Bool.and_eq_true]at hx;obtain⟨ox,hox,hex⟩:=opOf x hx.1;obtain⟨A1,A2,o1,FA1,FB1,_,hS⟩:=g.trace (hD x hx.2);have hcalm:=g.calm _ (hotB x (by rw[e1];simp) hx.2 ox hox hex);unfold calmPair at hcalm;simp only[hox,h.op,hS.tr,h.tr,hE,Bool.false_eq_true,if_false]at hcalm;refine reads FB1 ?_ hcalm;have hmem:memAt X ops F0 ts ((canon ops).filter D)=FB1:=by
     unfold memAt;have e2:canon ops=(A++i::B1)++x::B2:=by rw[e,e1];simp
     have:(((canon ops).filter D).filter (efB X F0.f ops)).getLast? =some x:=by
      rw[e2,List.filter_append,List.filter_append,List.filter_cons,hx.2,if_pos rfl,List.filter_cons,hx.1,if_pos rfl];have:(B2.filter D).filter (efB X F0.f ops)=[]:=by
       rw[List.filter_filter,List.filter_eq_nil_iff];intro z hz hp;rw[hlast z hz]at hp;cases hp
      rw[this];simp
     rw[this];simp[aftOf,hS.tr]
    have h1:=hF.mem;rw[hmem]at h1;exact h1
   ·
    have hB:∀z∈B'++BB,efB X F0.f ops z=true->D z=false:=fun z hz hp=>by
     cases hd:D z with
     |false=>rfl
     |true=>exact absurd ⟨z,hz,by simp[hp,hd]⟩ c2
    have hmem:memAt X ops F0 ts ((canon ops).filter D)=memAt X ops F0 ts A:=by
     unfold memAt;rw[e,filter_split hr.1 hA hB]
    have h1:=hF.mem;have h2:=h.at_.mem;rw[hmem]at h1;exact rd_congr ag.opd (by rw[h1,h2]) (by rw[h1,h2])
end
end Go.AM
namespace Go.AM
open Go
variable[Keep]
section
variable{X:Ctx}{cl:FuncId->List AV->Heap->COut}{rd:Nat->List AV->Heap->COut}{ops:Array Oper}{F0:Fr}{ts:List (Nat×Trace)}{AA BB A:List Nat}{D:Nat->Bool}{i:Nat}{o:Oper}
 {C:Cfg} {lam:Nat->Option Nat} {ms:List Nat} {F:Fr} {b:Frame} {a:Act} {w:World} {cs:List Frame} {k:List Item} {rest:List Nat}
theorem At.alloc(hok:drawOk X F0.f ops=true){B:List Nat}(e:canon ops=A++i::B)(ho:ops[i]? =some o)(ha:isAlloc o=true){FA:Fr}(h:At X ops F0 ts A FA):FA={ F0 with e:=FA.e }:=by
 have:memAt X ops F0 ts A=F0:=by
  unfold memAt;have:A.filter (efB X F0.f ops)=[]:=by
   rw[List.filter_eq_nil_iff];intro z hz hp;have:=canon_alloc e (by unfold allocAt;rw[ho];exact ha) z hz;unfold allocAt at this;unfold efB at hp;split at this
   ·rename_i x hx
    rw[hx]at hp;simp only[isEffD,this]at hp;simp at hp
   ·cases this
  rw[this];rfl
 have h1:=h.mem;rw[this]at h1;exact h1
theorem put_same(F:Fr)(d:Option Tmp)(v:AV):F.put d v={ F with e:=(F.put d v).e }:=by cases d<;>rfl
theorem put_lm(F:Fr)(d:Option Tmp)(v:AV):(F.put d v).lm=F.lm:=by cases d<;>rfl
theorem put_f(F:Fr)(d:Option Tmp)(v:AV):(F.put d v).f=F.f:=by cases d<;>rfl
theorem mid_step(hP:NoNum X.P)(hcl:ClOK X.P cl)(hrd:RdOK X.P rd)(g:Reg X cl rd ops F0 ts AA BB)(hc:Closed ops D)(hr:Ready ops D i)(hD:∀z,D z=true->z∈AA){B':List Nat}(eA:AA=A++i::B'){FA FB:Fr}
  (h:StepAt X cl rd ops F0 ts A i o FA FB) (m:Mid X ops F0 ts D C lam ms F b a w cs) (hdst:∀t,o.dst=some t->t<a.tmps.size) :
  ∃C' lam' a' cs' w' F',Steps X.P (lone (b.atR a (.inRegion ops (i::rest)::k)) cs w) (lone (b.atR a' (.inRegion ops rest::k)) cs' w')/\Fin C lam ms F b a w cs F' C' lam' ms a' cs' w'/\Mid X ops F0 ts (addD D i) C' lam' ms F' b a' w' cs':=by
 have e:canon ops=A++i::(B'++BB):=by rw[g.all,eA];simp
 have ho:=h.op;obtain⟨_,hal,hbx,hnd⟩:=drawOk_shape g.ok ho;have henv:=mid_env (ts:=ts) g.ok hc hr e ho;have hmem:=mid_mem (ts:=ts) g.ok hc hr e ho;have hadd:∀j,addD D i j=false->D j=false:=fun j hj=>by
  unfold addD at hj;simp only[Bool.or_eq_false_iff]at hj;exact hj.2
 cases ha:isAlloc o with
 | true =>
  obtain⟨hg,_,d,hd,_⟩:=hal ha;obtain⟨t,hop⟩:∃t,o.op= .alloc t:=by
   unfold isAlloc at ha;split at ha
   ·rename_i t e;exact⟨t,e⟩
   ·cases ha
  obtain⟨z,gn,hz,ht,hget⟩:=g.laid o d t (by rw[<-Array.getElem?_toList]at ho;exact List.mem_of_getElem? ho) hop hd;obtain⟨hlam,hlm⟩:=m.al i o d ho ha hr.1 hd;have hv:valOf ts i= .lptr d gn 0:=by
   have hst:=h.st;have hFA:=At.alloc g.ok e ho ha h.at_;unfold stepD at hst;rw[ha,hop,hd]at hst;simp only[if_true,rdV,Fr.allocV]at hst;have:FA.lm.get d=some (gn,z.cells):=by rw[hFA];exact hget
   rw[this]at hst;simp only[OOut.val.injEq]at hst;exact hst.1.symm
  obtain⟨zv,z1,z2,_⟩:=run_zero (P:=X.P) (w:=w) (C:=C) hz;obtain⟨k1,k2⟩:=z2.cells (not_tuple ht);obtain⟨k3,k4,k5⟩:=m.st.layBox (t:=d) (g:=gn) (T:=t) hlam (hlm.trans hget) k1 k2;have hstep:=stepA_value (P:=X.P) (b:=b) (a:=a) (cs:=cs) (rest:=rest) (k:=k) (u:=.pointer (some ⟨w.heap.size,0,none⟩)) (w:=w) (w':={ w with heap:=w.heap.push (.cells zv.cells t) }) ho
   (by unfold Region.wanted;rw[hg]) hnd (by simp[execOp,hop,Instr.alloc,z1,newVar,newRow])
  refine⟨C,lamSet lam d w.heap.size,_,cs,_,F.put o.dst (valOf ts i),.one hstep,⟨by rw[Act.put_size],k4.put (by rw[hv];exact k3) hdst,by rw[fin_hp];exact k5,.refl b cs⟩,
   { st:=k4.put (by rw[hv];exact k3) hdst,at_:=⟨fun t=>?_,?_⟩,al:=fun j o' s hj haj hdj hs=>?_,fn:=by rw[put_f];exact m.fn }⟩
  ·rw[put_get,henv t,m.at_.env t]
  ·rw[hmem]
   have:isEffD X F0.f o=false:=by simp[isEffD,ha]
   rw[this];simp only[Bool.false_eq_true,if_false];rw[put_same];have:=m.at_.mem;have q:=congrArg (fun G:Fr=>({ G with e:=(F.put o.dst (valOf ts i)).e }:Fr)) this
   exact q
  ·obtain⟨q1,q2⟩:=m.al j o' s hj haj (hadd j hdj) hs
   have hne:s≠d:=fun e'=>by
    subst e';have:=alloc_one g.ok hj ho haj ha hs hd;subst this;simp[addD]at hdj
   refine⟨by simp only[lamSet];rw[if_neg hne];exact q1,by rw[put_lm];exact q2⟩
 | false =>
  have hb:=hbx ha;have hst:stepOp X cl rd ops o FA= .val (valOf ts i) FB:=by
   have:=h.st;unfold stepD at this;rw[ha]at this;simpa using this
  have ag:=mid_agree g.ok hc hr e ho m.at_ h.at_;have main:∃F',stepOp X cl rd ops o F= .val (valOf ts i) F'/\(∀t,F'.e.get t=if o.dst=some t then some (valOf ts i)else F.e.get t)/\F'={ memAt X ops F0 ts ((canon ops).filter (addD D i))with e:=F'.e }:=by
   rw[hmem];cases hE:isEffD X F0.f o with
   | true =>
    have hsame:=mid_mem_eff (ts:=ts) g.ok hc hr e ho hE;have hF:F={ FA with e:=F.e }:=by
     have h1:=m.at_.mem;have h2:=h.at_.mem;rw[hsame]at h1;rw[h2];exact h1
    have hs:=stepOp_same (cl:=cl) (rd:=rd) (ops:=ops) (X:=X) (F:=FA) (e:=F.e) hb (by rw[<-hF];exact ag);rw[<-hF,hst]at hs;simp only at hs;refine⟨_,hs,fun t=>?_,?_⟩
    ·show (F.put o.dst (valOf ts i)).e.get t=_
     rw[put_get]
    ·simp only[if_true,aftOf,h.tr]
   | false =>
    have hf:F.f=FA.f:=m.fn.trans h.fn.symm;have hEa:isEffAt X FA.f o=false:=by
     unfold isEffD at hE;rw[ha]at hE;rw[h.fn];simpa using hE
    have hg:guardOk ops FA o=true:=by
     cases hg:guardOk ops FA o with
     |true=>rfl
     |false=>unfold stepOp at hst;rw[hg]at hst;simp at hst
    obtain⟨q1,q2⟩:=stepOp_read (G:=F) hf hEa ag hst (fun hw=>mid_read g hc hr hD eA h m.at_ hE ha hw hg);refine⟨_,q1,fun t=>put_get _ _ _ _,?_⟩;simp only[Bool.false_eq_true,if_false];rw[put_same];have:=m.at_.mem;have q:=congrArg (fun G:Fr=>({ G with e:=(F.put o.dst (valOf ts i)).e }:Fr)) this
    exact q
  obtain⟨F',hF',henv',hmem'⟩:=main;have hrun:=stepOp_ok (k:=k) (rest:=rest) (i:=i) hP hcl hrd m.st ho hdst (fun h'=>by rw[ha]at h';cases h');rw[hF']at hrun;obtain⟨C',lam',a',cs',w',r1,r2,r3⟩:=hrun;have r3:=r3 hb;subst r3;refine⟨C',lam',a',cs',w',F',r1,r2,{ st:=r2.2.1,at_:=⟨fun t=>?_,hmem'⟩,al:=fun j o' s hj haj hdj hs=>?_,fn:=(stepOp_shape hF').2.2.trans m.fn }⟩
  ·rw[henv' t,henv t,m.at_.env t]
  ·obtain⟨q1,q2⟩:=m.al j o' s hj haj (hadd j hdj) hs
   exact⟨q1,(stepOp_lm m.st hb hF' q1).trans q2⟩
end
end Go.AM
namespace Go.AM
open Go
variable[Keep]
def listedD(listed:Array Bool):Nat->Bool:=fun z=>listed.getD z false
def unlisted(n:Nat)(listed:Array Bool):Nat:=((List.range n).filter fun i=>!listed.getD i true).length
theorem filter_less{p q:Nat->Bool}:∀(l:List Nat),(∀z∈l,q z=true->p z=true)->(∃x∈l,p x=true/\q x=false)->(l.filter q).length<(l.filter p).length:=by
 intro l;induction l with
 |nil=>rintro _ ⟨x,hx,_⟩;simp at hx
 | cons y l ih =>
  intro h hex;have hle:(l.filter q).length <=(l.filter p).length:=by
   have:l.filter q=(l.filter p).filter q:=by
    rw[List.filter_filter];apply List.filter_congr;intro z hz;cases hq:q z with
    |false=>simp
    |true=>simp[h z (by simp[hz]) hq]
   rw[this];exact List.length_filter_le _ _
  by_cases hl:∃x∈l,p x=true/\q x=false
  ·have:=ih (fun z hz=>h z (by simp[hz])) hl
   simp only[List.filter_cons];cases hq:q y with
   |true=>rw[h y (by simp) hq];simp;omega
   |false=>cases hp:p y<;>simp<;>omega
  ·obtain⟨x,hx,h1,h2⟩:=hex
   rcases List.mem_cons.1 hx with rfl|hx
   ·simp only[List.filter_cons,h1,h2]
    simp;omega
   ·exact absurd ⟨x,hx,h1,h2⟩ hl
theorem listed_add{listed:Array Bool}{i:Nat}(hi:i<listed.size):listedD (listed.setIfInBounds i true)=addD (listedD listed) i:=by
 funext z
 unfold listedD addD;simp only[Array.getD_eq_getD_getElem?,Array.getElem?_setIfInBounds];by_cases h:i=z
 ·subst h;simp[hi]
 ·have:(z==i)=false:=by simpa using fun e=>h e.symm
  simp[h,this]
theorem getD_out{listed:Array Bool}{i:Nat}(hi:i<listed.size)(x y:Bool):listed.getD i x=listed.getD i y:=by
 simp[Array.getD,hi]
theorem unlisted_less{listed:Array Bool}{i:Nat}(hi:i<listed.size)(h:listed.getD i true=false):unlisted listed.size (listed.setIfInBounds i true)<unlisted listed.size listed:=by
 unfold unlisted;refine filter_less _ (fun z hz hq=>?_) ⟨i,List.mem_range.2 hi,by rw[h];rfl,by simp[hi]⟩;simp only[Array.getD_eq_getD_getElem?,Array.getElem?_setIfInBounds]at hq ⊢;by_cases e:i=z
 ·subst e;simp[hi]at hq
 ·simpa[e]using hq
section
variable{X:Ctx}{cl:FuncId->List AV->Heap->COut}{rd:Nat->List AV->Heap->COut}{ops:Array Oper}{F0:Fr}{ts:List (Nat×Trace)}{AA BB A:List Nat}{D:Nat->Bool}{i:Nat}{o:Oper}
 {C:Cfg} {lam:Nat->Option Nat} {ms:List Nat} {F:Fr} {b:Frame} {a:Act} {w:World} {cs:List Frame} {k:List Item} {rest:List Nat}
theorem ready_of{listed:Array Bool}(hs:listed.size=ops.size)(h:i∈Region.ready .any ops listed):i<ops.size/\listed.getD i true=false/\Ready ops (listedD listed) i:=by
 unfold Region.ready at h;obtain⟨h1,h2⟩:=List.mem_filter.1 h;have hi:=List.mem_range.1 h1;simp only[Bool.and_eq_true,Bool.not_eq_true']at h2;refine⟨hi,h2.1,?_,?_⟩
 ·unfold listedD
  rw[getD_out (by omega) false true];exact h2.1
 ·have h3:=h2.2
  rw[Array.getElem?_eq_getElem hi]at h3 ⊢;refine⟨_,rfl,fun e he hb=>?_⟩;simp only[Option.map_some,Option.getD_some]at h3;rw[<-Array.all_toList]at h3;have:=List.all_eq_true.1 h3 e he;rw[hb]at this;simpa[listedD]using this
theorem none_ready{f:FuncId}(hok:drawOk X f ops=true){listed:Array Bool}(hs:listed.size=ops.size)(h:Region.ready .any ops listed=[]):∀i,i<ops.size->listedD listed i=true:=by
 intro i;induction i using Nat.strongRecOn with
 | _ i ih =>
  intro hi;cases hd:listedD listed i with
  |true=>rfl
  | false =>
   exfalso
   have:i∈Region.ready .any ops listed:=by
    unfold Region.ready;refine List.mem_filter.2 ⟨List.mem_range.2 hi,?_⟩;have h1:listed.getD i true=false:=by rw[getD_out (by omega) true false];exact hd
    rw[h1,Array.getElem?_eq_getElem hi];simp only[Bool.not_false,Bool.true_and,Option.map_some,Option.getD_some];rw[<-Array.all_toList];refine List.all_eq_true.2 fun e he=>?_;cases hb:Region.binds .any e with
    |false=>rfl
    |true=>
     have:=(drawOk_shape hok (Array.getElem?_eq_getElem hi)).1 e he hb;have:=ih e.on this (by omega);simpa[listedD]using this
   rw[h]at this;simp at this
theorem junkAll_get:∀(l:List Oper) (F:Fr) (t:Tmp),(junkAll l F).e.get t=if l.any (fun o=>o.dst==some t)then some .junk else F.e.get t:=by
 intro l;induction l with
 |nil=>intro F t;rfl
 | cons o l ih =>
  intro F t;simp only[junkAll,ih,put_get,List.any_cons];by_cases h:l.any (fun o=>o.dst==some t)=true
  ·simp[h]
  ·by_cases h2:o.dst=some t
   ·simp[h2]
   ·simp[h,h2]
theorem junkAll_same:∀(l:List Oper) (F:Fr),junkAll l F={ F with e:=(junkAll l F).e }:=by
 intro l;induction l with
 |nil=>intro F;rfl
 |cons o l ih=>
  intro F;simp only[junkAll];rw[ih];have q:=congrArg (fun G:Fr=>({ G with e:=(junkAll l (F.put o.dst .junk)).e }:Fr)) (put_same F o.dst .junk)
  exact q
inductive Goal(X:Ctx)(cl:FuncId->List AV->Heap->COut)(rd:Nat->List AV->Heap->COut)(ops:Array Oper)(F0:Fr)(ts:List (Nat×Trace))(AA BB:List Nat):Out->Prop
 |norm {F':Fr}:BB=[]->At X ops F0 ts AA F'->Goal X cl rd ops F0 ts AA BB (.norm F')
 |pan {i:Nat} {B:List Nat} {o:Oper} {FA F':Fr} {v:AV}:BB=i::B->ops[i]? =some o->stepD X cl rd ops o FA= .pan v F'->At X ops F0 ts AA FA->FA.f=F0.f->(∀j∈B,waits ops j i=true)->Goal X cl rd ops F0 ts AA BB (.pan v (junkAll ops.toList F'))
theorem St.toE(s:St C lam ms F b a w cs){G:Fr}(h:G={ F with e:=G.e })(he:∀t,G.e.get t=some .junk\/G.e.get t=F.e.get t):St C lam ms G b a w cs:=by
 rw[h];refine s.withE fun t=>?_;rcases he t with he|he
 ·exact .inl (by simp only[Fr.tmp,he])
 ·exact .inr (by simp only[Fr.tmp,he])
theorem mid_end(g:Reg X cl rd ops F0 ts AA []){F':Fr}(hall:∀i,i<ops.size->D i=true)(m:Mid X ops F0 ts D C lam ms F b a w cs)(h:At X ops F0 ts AA F'):St C lam ms F' b a w cs/\F'.hp=F.hp:=by
 have hf:(canon ops).filter D=AA:=by
  rw[g.all,List.append_nil];have:AA=canon ops:=by rw[g.all,List.append_nil]
  rw[this];exact List.filter_eq_self.2 fun i hi=>hall i (canon_mem.1 hi)
 have m1:=m.at_;rw[hf]at m1;have hmem:F'={ F with e:=F'.e }:=by
  have h1:=m1.mem;have h2:=h.mem;have h3:=congrArg (fun G:Fr=>({ G with e:=F'.e }:Fr)) h1
  have h4:({ F with e:=F'.e }:Fr)={ memAt X ops F0 ts AA with e:=F'.e }:=h3
  rw[h4];exact h2
 exact⟨m.st.toE hmem fun t=>.inr (by rw[h.env,m1.env]),by rw[hmem]⟩
theorem mid_pan (hP : NoNum X.P) (hcl : ClOK X.P cl) (hrd : RdOK X.P rd) (hok : drawOk X F0.f ops = true) (hc : Closed ops D) (hr : Ready ops D i) {B : List Nat} (e : canon ops = A ++ i :: B) (ho : ops[i]? = some o) {FA F' : Fr} {v : AV}
  (hst:stepD X cl rd ops o FA= .pan v F') (hA:At X ops F0 ts A FA) (hfa:FA.f=F0.f) (m:Mid X ops F0 ts D C lam ms F b a w cs) (hdst:∀t,o.dst=some t->t<a.tmps.size) :
  Outs X.P (lone (b.atR a (.inRegion ops (i::rest)::k)) cs w) C lam ms F b a w cs k (.pan v (junkAll ops.toList F')):=by
 have hal:isAlloc o=false:=by
  cases ha:isAlloc o with
  |false=>rfl
  |true=>
   unfold stepD at hst;rw[ha]at hst;simp only[if_true]at hst;split at hst<;>cases hst
 have hst':stepOp X cl rd ops o FA= .pan v F':=by
  unfold stepD at hst;rw[hal]at hst;simpa using hst
 have hb:=(drawOk_shape hok ho).2.2.1 hal;have hE:isEffD X F0.f o=true:=by
  unfold isEffD;rw[hal];cases he:isEffAt X F0.f o with
  |true=>rfl
  |false=>
   exfalso
   unfold stepOp at hst';rw[hfa,he]at hst';simp only[Bool.false_eq_true,if_false]at hst'
   (repeat' split at hst')<;>cases hst'
 have ag:=mid_agree hok hc hr e ho m.at_ hA;have hsame:=mid_mem_eff (ts:=ts) hok hc hr e ho hE;have hF:F={ FA with e:=F.e }:=by
  have h1:=m.at_.mem;have h2:=hA.mem;rw[hsame]at h1;rw[h2];exact h1
 have hs:=stepOp_same (cl:=cl) (rd:=rd) (ops:=ops) (X:=X) (F:=FA) (e:=F.e) hb (by rw[<-hF];exact ag);rw[<-hF,hst']at hs;simp only at hs;have hrun:=stepOp_ok (k:=k) (rest:=rest) (i:=i) hP hcl hrd m.st ho hdst (fun h'=>by rw[hal]at h';cases h');rw[hs]at hrun;obtain⟨C',lam',a',cs',w',u,r1,r2,r3,r4⟩:=hrun;refine⟨C',lam',ms,a',cs',w',_,u,r1,r2,r3.1,?_,?_,r3.2.2.2⟩
 ·refine r3.2.1.toE (G := junkAll ops.toList F') ?_ fun t => ?_
  ·exact junkAll_same _ _
  ·rw [junkAll_get]
   by_cases h:ops.toList.any (fun o=>o.dst==some t)=true
   ·exact .inl (by rw[h];rfl)
   ·refine .inr ?_
    rw[if_neg h];have none:∀z,wrB ops t z=false:=fun z=>by
     cases hw:wrB ops t z with
     |false=>rfl
     | true =>
      exfalso
      unfold wrB at hw;split at hw
      ·rename_i x hx
       rw[<-Array.getElem?_toList]at hx;exact h (List.any_eq_true.2 ⟨x,List.mem_of_getElem? hx,hw⟩)
      ·cases hw
    have env0:∀L:List Nat,envAt ops F0 ts L t=F0.e.get t:=fun L=>by
     unfold envAt;have:L.filter (wrB ops t)=[]:=List.filter_eq_nil_iff.2 fun z _ hz=>by rw[none z]at hz;cases hz
     rw[this];rfl
    have h1 : F'.e = FA.e := by
     unfold stepOp at hst';split at hst'
     ·cases hst'
     ·split at hst'
      ·split at hst'
       ·split at hst'
        ·cases hst'
        ·rename_i r hne
         have key:∀{d:Option Tmp} {op:Op},efV X cl rd FA d op= .pan v F'->F'.e=FA.e:=fun {d op} h=>by
          cases op<;>simp only[efV]at h<;>first|(cases h;done)|skip
          case alloc t=>unfold Fr.allocE at h;split at h;exact(okO_pan h).elim;cases h
          case box t x=>unfold Fr.boxE at h;split at h;exact(okO_pan h).elim;cases h
          case store t p x=>unfold Fr.storeE at h;(repeat' split at h)<;>cases h
          case buildSlice t n ps=>unfold Fr.rowE at h;(repeat' split at h)<;>cases h
          case makeMap t r=>unfold Fr.mapE at h;(repeat' split at h)<;>cases h
          case makeSlice t l c=>unfold Fr.makeSliceE at h;(repeat' split at h)<;>cases h
          case convert t u x=>unfold Fr.bytesE at h;(repeat' split at h)<;>cases h
          case mapUpdate t m k x=>unfold Fr.mapUpdateE at h;(repeat' split at h)<;>cases h
          case range t x=>unfold Fr.rangeE at h;(repeat' split at h)<;>cases h
          case next x st=>unfold Fr.nextE at h;(repeat' split at h)<;>cases h
          case defer c=>unfold Fr.deferE at h;(repeat' split at h)<;>cases h
          case panic x=>unfold Fr.panicE at h;(repeat' split at h)<;>cases h;rfl
          case call c=>
           have out:∀{r:COut},outOf FA r= .pan v F'->F'.e=FA.e:=fun {r} h=>by cases r<;>simp[outOf]at h;obtain⟨_,rfl⟩:=h;rfl
           unfold Fr.callOp at h;split at h
           ·unfold Fr.callE at h
            split at h
            ·exact out h
            ·cases h
           ·unfold Fr.invokeE at h
            split at h
            ·split at h
             ·exact out h
             ·cases h
            ·cases h
           ·unfold Fr.builtinE at h
            split at h
            ·unfold Fr.appendE at h
             (repeat' split at h)<;>first|(cases h;done)|exact(okO_pan h).elim
            ·split at h
             ·unfold Fr.panicE at h;(repeat' split at h)<;>cases h;rfl
             ·cases h
            ·split at h
             ·unfold Fr.recoverE at h;(repeat' split at h)<;>cases h
             ·cases h
            ·cases h
         exact key hst'
       ·split at hst'<;>cases hst'
      ·cases hst'
    show F'.e.get t=F.e.get t;rw[h1,hA.env,m.at_.env,env0,env0]
 ·have:(junkAll ops.toList F').hp=F'.hp:=by rw[junkAll_same]
  rw[this];exact r3.2.2.1
theorem draw_go(hP:NoNum X.P)(hcl:ClOK X.P cl)(hrd:RdOK X.P rd)(g:Reg X cl rd ops F0 ts AA BB){out:Out}(hgoal:Goal X cl rd ops F0 ts AA BB out) :
  ∀(n t:Nat) (listed:Array Bool) (C:Cfg) (lam:Nat->Option Nat) (F:Fr) (a:Act) (w:World) (cs:List Frame),listed.size=ops.size->unlisted ops.size listed <=n->Closed ops (listedD listed)->(∀z,listedD listed z=true->z∈AA)->
   Mid X ops F0 ts (listedD listed) C lam ms F b a w cs->dstsLt a.tmps.size ops.toList=true->
   Outs X.P (lone (b.atR a (.inRegion ops (Region.linearise.go .any ops n t listed [])::k)) cs w) C lam ms F b a w cs k out:=by
 have fin:∀(listed:Array Bool) (C:Cfg) (lam:Nat->Option Nat) (F:Fr) (a:Act) (w:World) (cs:List Frame),(∀i,i<ops.size->listedD listed i=true)->(∀z,listedD listed z=true->z∈AA)->
   Mid X ops F0 ts (listedD listed) C lam ms F b a w cs->Outs X.P (lone (b.atR a (.inRegion ops []::k)) cs w) C lam ms F b a w cs k out:=by
  intro listed C lam F a w cs hall hD m;cases hgoal with
  |norm hB hAt=>
   subst hB;obtain⟨q1,q2⟩:=mid_end g hall m hAt;exact⟨C,lam,ms,a,cs,w,.one stepR_region_end,rfl,q1,by rw[q2];exact .refl _ _ _ _,.refl b cs⟩
  |pan hB ho hst hAt hfa hw=>
   rename_i i B o FA F' v
   exfalso
   have hi:i∈canon ops:=by rw[g.all,hB];simp
   have h1:=hD i (hall i (canon_mem.1 hi));have hn:=canon_nodup (ops:=ops);rw[g.all,hB,List.nodup_append]at hn;exact hn.2.2 i h1 i (by simp) rfl
 intro n;induction n with
 | zero =>
  intro t listed C lam F a w cs hs hn hc hD m hdst;simp only[Region.linearise.go,List.reverse_nil];refine fin listed C lam F a w cs (fun i hi=>?_) hD m;cases hd:listedD listed i with
  |true=>rfl
  |false=>
   exfalso
   have:i∈(List.range ops.size).filter fun i=>!listed.getD i true:=List.mem_filter.2 ⟨List.mem_range.2 hi,by rw[getD_out (by omega) true false];show (!listedD listed i)=true;rw[hd];rfl⟩;have hl:((List.range ops.size).filter fun i=>!listed.getD i true)=[]:=List.eq_nil_of_length_eq_zero (Nat.le_zero.1 hn);rw[hl]at this;simp at this
 | succ n ih =>
  intro t listed C lam F a w cs hs hn hc hD m hdst;simp only[Region.linearise.go]
  change Outs X.P (lone (b.atR a (.inRegion ops (match (Region.ready .any ops listed)[t % (Region.ready .any ops listed).length]? with
   |some i=>Region.linearise.go .any ops n (t / (Region.ready .any ops listed).length) (listed.setIfInBounds i true) [i]
   |none=>[].reverse)::k)) cs w) C lam ms F b a w cs k out
  cases hi:(Region.ready .any ops listed)[t % (Region.ready .any ops listed).length]? with
  | none =>
   have hnil:Region.ready .any ops listed=[]:=by
    cases hr:Region.ready .any ops listed with
    |nil=>rfl
    |cons x xs=>
     rw[hr]at hi;have hlt:t % (x::xs).length<(x::xs).length:=Nat.mod_lt _ (by simp);simp at hi;simp at hlt;omega
   exact fin listed C lam F a w cs (none_ready g.ok hs hnil) hD m
  | some i =>
   obtain⟨h1,h2,h3⟩:=ready_of hs (List.mem_of_getElem? hi);simp only[];rw[linearise_go_acc,List.reverse_singleton,List.singleton_append];have hdsti:∀o,ops[i]? =some o->∀t,o.dst=some t->t<a.tmps.size:=fun o ho t ht=>by
    unfold dstsLt at hdst;rw[<-Array.getElem?_toList]at ho;have:=List.all_eq_true.1 hdst o (List.mem_of_getElem? ho);rw[ht]at this;simpa using this
   have hmem:i∈canon ops:=canon_mem.2 h1;rw[g.all]at hmem;by_cases hAA:i∈AA
   ·obtain⟨A,B',o,FA,FB,eA,hS⟩:=g.trace hAA
    obtain⟨C',lam',a',cs',w',F',q1,q2,q3⟩:=mid_step (k:=k) (rest:=Region.linearise.go .any ops n (t / (Region.ready .any ops listed).length) (listed.setIfInBounds i true) []) hP hcl hrd g hc h3 hD eA hS m (hdsti o hS.op);rw[<-listed_add (by omega)]at q3;refine Outs.head q1 q2 (ih _ _ C' lam' F' a' w' cs' (by simp[hs]) ?_ ?_ ?_ q3 (by rw[q2.1];exact hdst))
    ·have:=unlisted_less (by omega) h2
     rw[hs]at this;omega
    ·rw[listed_add (by omega)];exact hc.add h3
    ·rw[listed_add (by omega)]
     intro z hz;simp only[addD,Bool.or_eq_true,beq_iff_eq]at hz;rcases hz with rfl|hz
     ·exact hAA
     ·exact hD z hz
   ·
    have hBB:i∈BB:=by
     rcases List.mem_append.1 hmem with h|h
     ·exact absurd h hAA
     ·exact h
    cases hgoal with
    |norm hB hAt=>rw[hB]at hBB;simp at hBB
    | pan hB ho hst hAt hfa hw =>
     rename_i i' B o FA F' v;have hii:i=i':=by
      rw[hB]at hBB;rcases List.mem_cons.1 hBB with h|h
      ·exact h
      ·exfalso
       have h4:=h3.waits hc (hw i h);have h5:=hD _ h4;have hn':=canon_nodup (ops:=ops);rw[g.all,hB,List.nodup_append]at hn';exact hn'.2.2 i' h5 i' (by simp) rfl
     subst hii;exact mid_pan hP hcl hrd g.ok hc h3 (by rw[g.all,hB]) ho hst hAt hfa m (hdsti o ho)
theorem St.drawn(s:St C lam ms F b a w cs):St C lam ms F b a { w with drawn:=w.drawn+1 } cs/\Ext C F.hp (Own lam ms) w C F.hp (Own lam ms) { w with drawn:=w.drawn+1 }:=
  ⟨{ wr:=⟨s.wr.sig,s.wr.blk,s.wr.inj,s.wr.apart,s.wr.fresh,s.wr.base⟩,env:=s.env,box:=s.box,inj:=s.inj,mark:=s.mark,nodup:=s.nodup,live:=s.live,osig:=s.osig,df:=s.df,up:=s.up,fn:=s.fn,rnd:=s.rnd },
   ⟨.refl C,rfl,rfl,rfl,Nat.le_refl _,fun _ _ _ _=>rfl,fun _ _ l=>.inl l,fun _ _ o=>.inr o,fun _ _ _ s=>.inl s,Nat.le_refl _⟩⟩
end
def DrawOK0(X:Ctx):Prop:=
 ∀ (cl : FuncId -> List AV -> Heap -> COut) (rd : Nat -> List AV -> Heap -> COut), ClOK X.P cl -> RdOK X.P rd ->
  ∀(id:Nat) (ops:Array Oper) (F:Fr) (C:Cfg) (lam:Nat->Option Nat) (ms:List Nat) (b:Frame) (a:Act) (w:World) (cs:List Frame) (k:List Item),St C lam ms F b a w cs->dstsLt a.tmps.size ops.toList=true->
   Outs X.P (lone (b.atR a (.code (.region id ops true)::k)) cs w) C lam ms F b a w cs k (runDraw X cl rd ops F)
theorem draw_ok0{X:Ctx}(hP:NoNum X.P)(hm:X.P.follows .mixedOrders=true):DrawOK0 X:=by
 intro cl rd hcl hrd id ops F C lam ms b a w cs k s hdst;rw[runDraw_eq];split
 ·trivial
 ·rename_i hok
  have hok:drawOk X F.f ops=true:=by simpa using hok
  split
  ·trivial
  ·rename_i F0 hprep
   obtain⟨sd,xd⟩:=s.drawn;obtain⟨lam0,s0,x0,hnone,hal0,he0,hf0⟩:=prepAll_ok _ _ _ _ sd hprep;have hstep:=stepR_region_draw (P:=X.P) (b:=b) (a:=a) (k:=k) (cs:=cs) (w:=w) (ops:=ops) (id:=id);have hfin0:Fin C lam ms F b a w cs F0 C lam0 ms a cs { w with drawn:=w.drawn+1 }:=⟨rfl,s0,xd.trans x0,.refl b cs⟩
   have hsched:∀t,Region.schedule (X.P.follows .mixedOrders) ops t=Region.linearise.go .any ops ops.size t (Array.replicate ops.size false) []:=fun t=>by
    simp only[Region.schedule,hm,Bool.true_or,if_true];rfl
   rw[hsched]at hstep;have hok0:drawOk X F0.f ops=true:=by rw[hf0];exact hok
   have hlaid:∀o s t,o∈ops.toList->o.op= .alloc t->o.dst=some s->∃z g,zeroT X.P t=some z/\isTuple z=false/\F0.lm.get s=some (g,z.cells):=fun o s t ho h1 h2=>by
    refine prepAll_get _ _ _ s t hprep (fun o' ho' t' h1' h2'=>?_) ⟨o,ho,h1,h2⟩;obtain⟨i,hi⟩:=List.mem_iff_getElem?.1 ho;obtain⟨j,hj⟩:=List.mem_iff_getElem?.1 ho';rw[Array.getElem?_toList]at hi hj;have:=alloc_one hok0 hi hj (by unfold isAlloc;rw[h1]) (by unfold isAlloc;rw[h1']) h2 h2';subst this;rw[hi]at hj;cases hj;rw[h1]at h1';cases h1';rfl
   have hemp:∀z,listedD (Array.replicate ops.size false) z=false:=fun z=>by
    unfold listedD;simp only[Array.getD_eq_getD_getElem?,Array.getElem?_replicate];split<;>rfl
   have hmid:∀ts,Mid X ops F0 ts (listedD (Array.replicate ops.size false)) C lam0 ms F0 b a { w with drawn:=w.drawn+1 } cs:=fun ts=>by
    have:(canon ops).filter (listedD (Array.replicate ops.size false))=[]:=List.filter_eq_nil_iff.2 fun z _ hz=>by rw[hemp z]at hz;cases hz
    refine { st:=s0,at_:=by rw[this];exact .start,al:=fun j o s hj haj _ hs=>⟨hal0 o (by rw[<-Array.getElem?_toList]at hj;exact List.mem_of_getElem? hj) haj s hs,rfl⟩,fn:=rfl }
   have run:∀ts AA BB out,Reg X cl rd ops F0 ts AA BB->Goal X cl rd ops F0 ts AA BB out->Outs X.P (lone (b.atR a (.code (.region id ops true)::k)) cs w) C lam ms F b a w cs k out:=fun ts AA BB out g hg=>by
    refine Outs.head (.one hstep) hfin0 (draw_go hP hcl hrd g hg _ _ _ C lam0 F0 a _ cs (by simp) ?_ (fun j o hj=>?_) (fun z hz=>?_) (hmid ts) hdst)
    ·unfold unlisted
     have:=List.length_filter_le (fun i=>!(Array.replicate ops.size false).getD i true) (List.range ops.size);simpa using this
    ·rw[hemp j]at hj;cases hj
    ·rw[hemp z]at hz;cases hz
   split
   ·rename_i F' ts hrun
    split
    ·rename_i hcalm
     obtain⟨q1,q2⟩:=runD_norm (F0:=F0) (ts:=ts) _ [] F0 F' ts canon_nodup (fun _ _=>rfl) .start rfl hrun;refine run ts (canon ops) [] _ ⟨hok0,fun p hp=>?_,q2,by simp,hlaid⟩ (.norm rfl (by simpa using q1));rw[hf0]at hp ⊢;exact List.all_eq_true.1 hcalm p hp
    ·trivial
   ·rename_i i v F' ts hrun
    split
    ·rename_i hcalm
     simp only[Bool.and_eq_true]at hcalm;obtain⟨A,B,o,FA,q1,q2,q3,q4,q5,q6,q7⟩:=runD_pan (F0:=F0) (ts:=ts) _ [] F0 F' i v ts canon_nodup (fun _ _=>rfl) .start rfl hrun;refine run ts A (i::B) _ ⟨hok0,fun p hp=>?_,q6,q1,hlaid⟩ (.pan rfl q2 q3 (by simpa using q4) q5 fun j hj=>?_)
     ·rw[hf0]at hp ⊢
      exact List.all_eq_true.1 hcalm.1 p hp
     ·have hn:=canon_nodup (ops:=ops)
      have:=List.all_eq_true.1 hcalm.2 j (by rw[q1];simp[hj]);simp only[Bool.or_eq_true,beq_iff_eq]at this;rw[q1,List.nodup_append]at hn;rcases this with(rfl|h)|h
      ·exact absurd hj (List.nodup_cons.1 hn.2.1).1
      ·exact h
      ·exact absurd rfl (hn.2.2 j (q7 j h) j (by simp[hj]))
    ·trivial
   ·trivial
theorem promote_ok{F F':Fr}{C:Cfg}{lam:Nat->Option Nat}{ms:List Nat}{b:Frame}{a:Act}{w:World}{cs:List Frame}{s:Tmp}(st:St C lam ms F b a w cs)(h:promote1 F s=some F') :
  F'.f=F.f/\∃C' lam',St C' lam' ms F' b a w cs/\Ext C F.hp (Own lam ms) w C' F'.hp (Own lam' ms) w:=by
 unfold promote1 at h;split at h
 ·rename_i s' g g' cells he hl
  split at h
  ·rename_i hc
   obtain⟨rfl,rfl⟩:=hc;have h:=Option.some.inj h;subst h;refine⟨rfl,?_⟩;have hs:=st.env s';have ht:F.tmp s'= .lptr s' g 0:=by unfold Fr.tmp;rw[he]
   rw[ht]at hs;obtain⟨g1,cs1,β,e1,e2,e3,e4⟩:=hs;rw[hl]at e1;cases e1;have hlam:=e4 rfl;obtain⟨g2,cells2,c,b1,b2,b3,b4⟩:=st.box s' β hlam;rw[hl]at b1;cases b1;have hnew:C.mu F.hp.next=none:=by
    cases hq:C.mu F.hp.next with
    |none=>rfl
    |some L=>exact absurd (st.wr.fresh _ _ hq) (Nat.lt_irrefl _)
   obtain⟨C',hC'⟩:∃C':Cfg,C'=⟨fun id=>if id=F.hp.next then some ⟨β,0,cells.length,cells.length⟩else C.mu id,C.sig⟩:=⟨_,rfl⟩
   have hmu:∀id,C'.mu id=if id=F.hp.next then some ⟨β,0,cells.length,cells.length⟩else C.mu id:=fun id=>by rw[hC']
   have hsg:∀x,C'.sig x=C.sig x:=fun x=>by rw[hC']
   have hle:C.le C':=⟨fun id L hL=>by
    rw[hmu];split
    ·rename_i e;rw[e,hnew]at hL;cases hL
    ·exact hL,fun x v hv=>by rw[hsg];exact hv⟩
   have hget:∀id,(F.hp.new (.var cells)).get id=if F.hp.next=id then some (.var cells)else F.hp.get id:=fun id=>Heap.get_new _ _ _
   have hown:Own lam ms β:=.inl ⟨s',hlam⟩;have hlive:∀x,Live C' (F.hp.new (.var cells)) x->Live C F.hp x\/x=β:=by
    rintro x ⟨id,blk,L,h1,h2,rfl⟩;rw[hget]at h1;rw[hmu]at h2;by_cases e:id=F.hp.next
    ·rw[if_pos e]at h2;cases h2;exact .inr rfl
    ·rw[if_neg (fun q=>e q.symm)]at h1
     rw[if_neg e]at h2;exact .inl ⟨id,blk,L,h1,h2,rfl⟩
   have hsub:∀x,Own (fun t=>if t=s' then none else lam t) ms x->Own lam ms x:=by
    rintro x (⟨t,ht⟩|hx)
    ·simp only at ht
     by_cases e:t=s'
     ·rw[if_pos e]at ht;cases ht
     ·rw[if_neg e]at ht;exact .inl ⟨t,ht⟩
    ·exact .inr hx
   have hnot:¬Own (fun t=>if t=s' then none else lam t) ms β:=by
    rintro(⟨t,ht⟩|hx)
    ·simp only at ht
     by_cases e:t=s'
     ·rw[if_pos e]at ht;cases ht
     ·rw[if_neg e]at ht;exact e (st.inj _ _ _ ht hlam)
    ·have:=st.mark β hx
     obtain⟨T,lo,hi,q,_⟩:=b2;rw[this]at q;cases q
   refine⟨C',fun t=>if t=s' then none else lam t,⟨⟨?_,?_,?_,?_,?_,?_⟩,?_,?_,?_,st.mark,st.nodup,?_,?_,st.df.mono hle,st.up.mono hle,st.fn,st.rnd⟩,?_⟩
   ·intro x v hv;rw[hsg]at hv;exact st.wr.sig x v hv
   ·intro id blk hb
    rw[hget]at hb;by_cases e:F.hp.next=id
    ·rw[if_pos e]at hb
     cases hb;refine⟨_,by rw[hmu,if_pos e.symm],c,b2,rfl,b3.mono hle,b4⟩
    ·rw[if_neg e]at hb
     obtain⟨L,h1,h2⟩:=st.wr.blk id blk hb;exact⟨L,by rw[hmu,if_neg (fun q=>e q.symm)];exact h1,h2.same hle rfl⟩
   ·intro id id' blk blk' L L' h1 h2 h3 h4 h5
    rw[hget]at h1 h2;rw[hmu]at h3 h4;by_cases e:id=F.hp.next<;>by_cases e':id'=F.hp.next
    ·rw[e,e']
    ·rw[if_pos e]at h3
     rw[if_neg e']at h4;rw[if_neg (fun q=>e' q.symm)]at h2;cases h3;exact absurd ⟨id',blk',L',h2,h4,h5.symm⟩ (st.live β hown)
    ·rw[if_neg e]at h3
     rw[if_pos e']at h4;rw[if_neg (fun q=>e q.symm)]at h1;cases h4;exact absurd ⟨id,blk,L,h1,h3,h5⟩ (st.live β hown)
    ·rw[if_neg e]at h3
     rw[if_neg e']at h4;rw[if_neg (fun q=>e q.symm)]at h1;rw[if_neg (fun q=>e' q.symm)]at h2;exact st.wr.inj id id' blk blk' L L' h1 h2 h3 h4 h5
   ·intro id blk L x v h1 h2 h3
    rw[hget]at h1;rw[hmu]at h2;rw[hsg]at h3;by_cases e:id=F.hp.next
    ·rw[if_pos e]at h2
     cases h2;exact st.osig β x v hown h3
    ·rw[if_neg (fun q=>e q.symm)]at h1
     rw[if_neg e]at h2;exact st.wr.apart id blk L x v h1 h2 h3
   ·intro id L hL
    rw[hmu]at hL;by_cases e:id=F.hp.next
    ·rw[e];exact Nat.lt_succ_self _
    ·rw[if_neg e]at hL
     exact Nat.lt_succ_of_lt (st.wr.fresh id L hL)
   ·exact⟨fun x v hx=>by rw[hsg];exact st.wr.base.1 x v hx,st.wr.base.2⟩
   ·intro t
    by_cases e:t=s'
    ·subst e
     have q:({ F with e:=F.e.set t (.ptr F.hp.next 0),lm:=F.lm.set t (g+1,cells),hp:=F.hp.new (.var cells) }:Fr).tmp t= .ptr F.hp.next 0:=by unfold Fr.tmp;simp
     rw[q,e3];exact SR.of (VR.ptr (L:=⟨β,0,cells.length,cells.length⟩) (off:=0) (by rw[hmu,if_pos rfl]))
    ·have q:({ F with e:=F.e.set s' (.ptr F.hp.next 0),lm:=F.lm.set s' (g+1,cells),hp:=F.hp.new (.var cells) }:Fr).tmp t=F.tmp t:=by
      unfold Fr.tmp;simp only[Mp.get_set];rw[if_neg (fun q=>e q.symm)]
     rw[q];have h0:=(st.env t).mono hle;cases hv:F.tmp t with
     | lptr u gu off =>
      rw[hv]at h0;obtain⟨g3,cs3,β3,f1,f2,f3,f4⟩:=h0;by_cases eu:u=s'
      ·subst eu
       rw[hl]at f1;cases f1;exact⟨g+1,cells,β3,by simp,by omega,f3,fun q=>by omega⟩
      ·refine⟨g3,cs3,β3,?_,f2,f3,fun q=>?_⟩
       ·simp only[Mp.get_set];rw[if_neg (fun q=>eu q.symm)];exact f1
       ·simp only[if_neg eu];exact f4 q
     |_=>rw[hv]at h0;exact h0
   ·intro u β3 hu
    by_cases e:u=s'
    ·simp only[if_pos e]at hu;cases hu
    ·simp only[if_neg e]at hu
     obtain⟨g3,cells3,c3,f1,f2,f3,f4⟩:=st.box u β3 hu;refine⟨g3,cells3,c3,?_,f2,f3.mono hle,f4⟩;simp only[Mp.get_set];rw[if_neg (fun q=>e q.symm)];exact f1
   ·intro u u' β3 h1 h2
    by_cases e:u=s'
    ·simp only[if_pos e]at h1;cases h1
    ·by_cases e':u'=s'
     ·simp only[if_pos e']at h2;cases h2
     ·simp only[if_neg e]at h1
      simp only[if_neg e']at h2;exact st.inj u u' β3 h1 h2
   ·intro β3 ho hl3
    rcases hlive β3 hl3 with q|rfl
    ·exact st.live β3 (hsub _ ho) q
    ·exact hnot ho
   ·intro β3 x v ho hx
    rw[hsg]at hx;exact st.osig β3 x v (hsub _ ho) hx
   ·refine⟨hle,rfl,rfl,rfl,Nat.le_refl _,fun _ _ _ _=>rfl,fun x _ hx=>?_,fun x _ hx=>.inr (hsub _ hx),fun x v _ hx=>.inl (by rw[hsg]at hx;exact hx),Nat.le_succ _⟩
    rcases hlive x hx with q|rfl
    ·exact .inl q
    ·exact .inr hown
  ·cases h
 ·cases h
theorem promoteAll_ok:∀{l:List Tmp} {F F':Fr} {C:Cfg} {lam:Nat->Option Nat} {ms:List Nat} {b:Frame} {a:Act} {w:World} {cs:List Frame},St C lam ms F b a w cs->promoteAll l F=some F'->
  F'.f=F.f/\∃C' lam',St C' lam' ms F' b a w cs/\Ext C F.hp (Own lam ms) w C' F'.hp (Own lam' ms) w
 | [],F,F',C,lam,ms,b,a,w,cs,st,h=>by
  cases h;exact⟨rfl,C,lam,st,.refl _ _ _ _⟩
 | s :: l, F, F', C, lam, ms, b, a, w, cs, st, h => by
  unfold promoteAll at h;split at h
  ·rename_i F1 h1
   obtain⟨f1,C1,lam1,st1,x1⟩:=promote_ok st h1;obtain⟨f2,C2,lam2,st2,x2⟩:=promoteAll_ok st1 h;exact⟨f2.trans f1,C2,lam2,st2,x1.trans x2⟩
  ·cases h
theorem draw_ok{X:Ctx}(hP:NoNum X.P)(hm:X.P.follows .mixedOrders=true):DrawOK X:=by
 intro cl rd hcl hrd id ops F C lam ms b a w cs k s hdst;unfold runDrawP;split
 ·exact draw_ok0 hP hm cl rd hcl hrd id ops F C lam ms b a w cs k s hdst
 ·have h:=draw_ok0 (X:=lowX X ops) hP hm cl rd hcl hrd id ops F C lam ms b a w cs k s hdst
  split
  ·rename_i F' hr
   rw[hr]at h;split
   ·rename_i F'' hp
    obtain⟨C',lam',ms',a',cs',w',h1,h2,h3,h4,h5⟩:=h;obtain⟨f2,C2,lam2,st2,x2⟩:=promoteAll_ok h3 hp;exact⟨C2,lam2,ms',a',cs',w',h1,h2,st2,h4.trans x2,h5⟩
   ·trivial
  ·exact h
theorem ev_sound{X:Ctx}(hP:NoNum X.P)(hI:IntrOK X)(hm:X.P.follows .mixedOrders=true)(n:Nat):CodeOK X.P (ev X n):=(ev_ok hP hI (draw_ok hP hm) n).1
end Go.AM
namespace Go.AM
open Go
variable[Keep]
mutual
def AV.pur:AV->Bool
 | .junk| .ptr _ _| .eptr _ _ _ _| .lptr _ _ _| .row _ _ _| .map _| .yield _=>false
 | .vptr l| .vslice l| .agg l| .tuple l=>AV.purL l
 | .func _ a b=>AV.purL a&&AV.purL b
 | .iface _ v=>AV.pur v
 |_=>true
def AV.purL:List AV->Bool
 | []=>true
 |a::l=>AV.pur a&&AV.purL l
end
mutual
def AV.flat:AV->Bool
 | .bool _| .int _ _| .str _| .nilptr| .nilslice| .nilmap| .nilfunc| .niliface=>true
 | .agg l| .tuple l=>AV.flatL l
 | .iface _ v=>AV.flat v
 |_=>false
def AV.flatL:List AV->Bool
 | []=>true
 |a::l=>AV.flat a&&AV.flatL l
end
theorem purL_mem:∀{l:List AV},AV.purL l=true↔∀a∈l,a.pur=true:=by
 intro l;induction l with
 |nil=>simp[AV.purL]
 |cons a l ih=>simp[AV.purL,ih]
theorem flatL_mem:∀{l:List AV},AV.flatL l=true↔∀a∈l,a.flat=true:=by
 intro l;induction l with
 |nil=>simp[AV.flatL]
 |cons a l ih=>simp[AV.flatL,ih]
theorem pur_getD{l:List AV}(h:AV.purL l=true){i:Nat}(hi:i<l.length):(l.getD i .junk).pur=true:=by
 have:=purL_mem.1 h (l.getD i .junk) (by simp[List.getD,hi]);exact this
theorem flat_getD{l:List AV}(h:AV.flatL l=true){i:Nat}(hi:i<l.length):(l.getD i .junk).flat=true:=by
 have:=flatL_mem.1 h (l.getD i .junk) (by simp[List.getD,hi]);exact this
theorem pur_cells{a:AV}(h:a.pur=true){j:Nat}(hj:j<a.cells.length):(a.cells.getD j .junk).pur=true:=by
 cases a<;>first|(simp only[AV.cells]at hj ⊢;simp only[AV.pur]at h;exact pur_getD h hj)|(simp[AV.cells]at hj ⊢;subst hj;simpa using h)
theorem VR.pur{C D:Cfg}{a:AV}{v:Value}(r:VR C a v)(hs:∀x u,C.sig x=some u->D.sig x=some u)(h:a.pur=true):VR D a v:=by
 induction r with
 |bool b=>exact .bool b
 |int k n=>exact .int k n
 |str s=>exact .str s
 |nilptr=>exact .nilptr
 |ptr e=>simp[AV.pur]at h
 |eptr e=>simp[AV.pur]at h
 |vptr vs h1 _ h3 ih=>simp only[AV.pur]at h;exact .vptr vs (fun k hk=>hs _ _ (h1 k hk)) (fun k hk=>ih k hk (pur_getD h hk)) h3
 |nilslice=>exact .nilslice
 |vslice vs h1 h2 h3 _ h5 ih=>
  simp only[AV.pur]at h;refine .vslice vs h1 h2 (fun i j hi hj=>hs _ _ (h3 i j hi hj)) (fun i j hi hj=>ih i j hi hj (pur_cells (pur_getD h hi) ?_)) h5;rw[h2 _ (by simp[List.getD,hi])];exact hj
 |vslice0 a cap=>exact .vslice0 a cap
 |vempty a=>exact .vempty a
 |row a h1 h2 h3 h4=>simp[AV.pur]at h
 |nilmap=>exact .nilmap
 |map e=>simp[AV.pur]at h
 |func h1 _ h3 _ ih1 ih2=>
  simp only[AV.pur,Bool.and_eq_true]at h;exact .func h1 (fun i hi=>ih1 i hi (pur_getD h.1 hi)) h3 (fun i hi=>ih2 i hi (pur_getD h.2 hi))
 |yield e=>simp[AV.pur]at h
 |nilfunc=>exact .nilfunc
 |niliface=>exact .niliface
 |iface _ ih=>simp only[AV.pur]at h;exact .iface (ih h)
 |agg h1 _ h3 ih=>simp only[AV.pur]at h;exact .agg h1 (fun i hi=>ih i hi (pur_getD h hi)) h3
 |tuple h1 _ ih=>simp only[AV.pur]at h;exact .tuple h1 (fun i hi=>ih i hi (pur_getD h hi))
theorem VR.flat{C D:Cfg}{a:AV}{v:Value}(r:VR C a v)(h:a.flat=true):VR D a v:=by
 induction r with
 |bool b=>exact .bool b
 |int k n=>exact .int k n
 |str s=>exact .str s
 |nilptr=>exact .nilptr
 |nilslice=>exact .nilslice
 |nilmap=>exact .nilmap
 |nilfunc=>exact .nilfunc
 |niliface=>exact .niliface
 |iface _ ih=>simp only[AV.flat]at h;exact .iface (ih h)
 |agg h1 _ h3 ih=>simp only[AV.flat]at h;exact .agg h1 (fun i hi=>ih i hi (flat_getD h hi)) h3
 |tuple h1 _ ih=>simp only[AV.flat]at h;exact .tuple h1 (fun i hi=>ih i hi (flat_getD h hi))
 |_=>simp[AV.flat]at h
theorem VRs.pur{C D:Cfg}{l:List AV}{vs:Array Value}(r:VRs C l vs)(hs:∀x u,C.sig x=some u->D.sig x=some u)(h:∀a∈l,a.pur=true):VRs D l vs:=
 ⟨r.1,fun i hi=>(r.2 i hi).pur hs (pur_getD (purL_mem.2 h) hi)⟩
def emptyHp:Heap:=⟨0,.nil⟩
def IntrFn(P:Program)(f:FuncId)(g:List AV->Heap->Option (AV×Heap)):Prop:=∀(args:List AV) (h:Heap) (v:AV) (h':Heap),g args h=some (v,h')->
 ∀(C:Cfg) (w:World) (vs:Array Value),WR C h w->VRs C args vs->(∃fn,P.funcs[f]? =some fn/\fn.body.isSome=true)/\∀cs,Left P f C h w (lone (Frame.enter P f vs .normal) cs w) cs (.ret v h' none)
structure Sound(X:Ctx):Prop where
 num:NoNum X.P
 mix:X.P.follows .mixedOrders=true
 intr:IntrOK X
theorem Sound.call{X:Ctx}(s:Sound X)(n:Nat):CallOK X.P (callF X (ev X n)):=callF_ok (ev_sound s.num s.intr s.mix n) s.num s.intr
def Cl(X:Ctx)(f:FuncId)(args:List AV)(h:Heap)(r:COut):Prop:=∃n,∀m,n <=m->callF X (ev X m) f args h=r
def pureFn(spec:List AV->Option AV):List AV->Heap->Option (AV×Heap):=fun args h=>if AV.purL args then (match spec args with|some v=>some (v,h)|none=>none)else none
section
variable{C:Cfg}{h:Heap}{w:World}
theorem WR.bare(r:WR C h w):WR ⟨fun _=>none,C.sig⟩ emptyHp w:=
 ⟨r.sig,fun id blk e=>by simp[emptyHp,Heap.get]at e,fun id id' blk blk' L L' e=>by simp[emptyHp,Heap.get]at e,fun id blk L x v e=>by simp[emptyHp,Heap.get]at e,fun id L e=>(by cases e),r.base⟩
theorem emptyHp_live{C:Cfg}{b:Nat}:¬Live C emptyHp b:=by
 rintro⟨id,blk,L,e,_⟩;simp[emptyHp,Heap.get]at e
theorem pure_intr {X : Ctx} (s : Sound X) {f : FuncId} {spec : List AV -> Option AV} (hp : ∀ args v, spec args = some v -> v.pur = true) (hr : ∀ args v, spec args = some v -> ∃ h', Cl X f args emptyHp (.ret v h' none)) : IntrFn X.P f (pureFn spec) := by
  intro args h v h' hg C w vs r hv;unfold pureFn at hg;split at hg
  · rename_i hpur
    split at hg
    · rename_i u hsp
      cases hg;obtain⟨h1,n,hn⟩:=hr args v hsp;have hcall:=hn n (Nat.le_refl _);have hok:=s.call n f args emptyHp ⟨fun _=>none,C.sig⟩ w vs r.bare (hv.pur (fun _ _ h=>h) (purL_mem.1 hpur)) (by rw[hcall];intro e;cases e);refine⟨hok.1,fun cs=>?_⟩;have:=hok.2 cs;rw[hcall]at this;obtain⟨C',w',fr,u,q1,q2,q3,q4,q5,q6⟩:=this;have hle:C.le ⟨C.mu,C'.sig⟩:=⟨fun _ _ h=>h,q6.le.sig⟩;have hsame:∀ β,β<w.heap.size->w'.heap[β]? =w.heap[β]?:=fun β hb=>q6.same β hb emptyHp_live id;have hsig:∀x u,x.block<w.heap.size->C'.sig x=some u->C.sig x=some u:=fun x u hb e=>by
        rcases q6.sig x u hb e with h|h|h
        · exact h
        · exact(emptyHp_live h).elim
        · exact h.elim
      refine⟨⟨C.mu,C'.sig⟩,w',fr,u,q1,q2,q3,q4.pur (fun _ _ h=>h) (hp _ _ hsp),⟨q5.sig,fun id blk e=>?_,r.inj,fun id blk L x u e1 e2 e3 e4=>?_,r.fresh,q5.base⟩,?_⟩
      · obtain ⟨L, k1, k2⟩ := r.blk id blk e
        exact⟨L,k1,k2.same hle (hsame _ k2.lt)⟩
      · obtain ⟨L', k1, k2⟩ := r.blk id blk e1
        rw[e2]at k1;cases k1;have:=k2.lt;exact r.apart id blk L x u e1 e2 (hsig x u (by rw[e4];exact this) e3) e4
      · exact { le := hle, os := q6.os, tape := q6.tape, output := q6.output, size := q6.size, same := fun β hb _ _ => hsame β hb, live := fun β hb l => .inl (by
                  obtain⟨id,blk,L,e1,e2,e3⟩:=l;exact⟨id,blk,L,e1,e2,e3⟩)
                own:=fun _ _ o=>o.elim,sig:=fun x u hb e=>.inl (hsig x u hb e),next:=Nat.le_refl _ }
    · cases hg
  · cases hg
def viewV(h:Heap)(a:AV):Option AV:=
 match a with
 | .row id off len=>(match h.get id with
  |some (.rw _ el)=>if off+len <=el.length then (if AV.purL ((el.drop off).take len)then some (.vslice ((el.drop off).take len))else none)else none
  |_=>none)
 |a=>if a.pur then some a else none
def viewVs(h:Heap):List AV->Option (List AV)
 | []=>some []
 |a::r=>match viewV h a,viewVs h r with
  |some x,some l=>some (x::l)
  |_,_=>none
def flatFn(spec:List AV->Option AV):List AV->Heap->Option (AV×Heap):=fun args h=>match viewVs h args with
 |some l=>(match spec l with|some v=>some (v,h)|none=>none)
 |none=>none
theorem viewV_ok (r : WR C h w) {a a' : AV} {v : Value} (hv : VR C a v) (e : viewV h a = some a') : a'.pur = true /\ VR ⟨fun _ => none, w.cell?⟩ a' v := by
 have plain:a.pur=true->VR ⟨fun _=>none,w.cell?⟩ a v:=fun hp=>hv.pur (fun x u h=>r.sig x u h) hp;unfold viewV at e;split at e
 ·rename_i id off len
  split at e
  ·rename_i sz el hb
   split at e
   ·rename_i hle
    split at e
    ·rename_i hp
     cases e;refine⟨by simpa[AV.pur]using hp,?_⟩;have hlen:((el.drop off).take len).length=len:=by simp;omega
     obtain⟨L,k1,c,k2,k3,k4,k5,k6⟩:=r.blk id _ hb;cases hv with
     | row a h1 h2 h3 h4 =>
      rename_i cap L';rw[k1]at h1;cases h1;rcases h3 with rfl|rfl
      ·obtain rfl:len=0:=by omega
       have:(el.drop off).take 0=[]:=by simp
       rw[this];exact .vslice0 _ _
      ·have get:∀i,i<len->∃x,el[off+i]? =some x/\((el.drop off).take len).getD i .junk=x:=fun i hi=>by
        have hlt:off+i<el.length:=by omega
        refine⟨el[off+i],by simp[hlt],?_⟩;have hd:i<el.length - off:=by omega
        simp[List.getD,List.getElem?_take,hi,List.getElem?_drop,hlt]
       have cell:∀i j x,el[off+i]? =some x->j<sz->∃u,c[L.o+(off+i) * sz+j]? =some u/\VR C (x.cells.getD j .junk) u:=fun i j x hx hj=>by
        obtain⟨q1,q2,q3⟩:=k6 (off+i) x hx;obtain⟨u,q4,q5⟩:=q3 j (x.cells.getD j .junk) (by simp[List.getD,q1,hj]);exact⟨u,q4,q5⟩
       have:=VR.vslice (C:=⟨fun _=>none,w.cell?⟩) (l:=(el.drop off).take len) (sz:=sz) (b:=L.b) (o:=L.o+off * sz) (cap:=cap) (fun i j=>c.getD (L.o+(off+i) * sz+j) undef) (by omega) (fun e he=>?_) (fun i j hi hj=>?_) (fun i j hi hj=>?_) (fun e he=>?_)
       ·rw[hlen]at this
        rw[k3];exact this
       ·have:e∈el:=List.mem_of_mem_drop (List.mem_of_mem_take he)
        obtain⟨i,hi⟩:=List.mem_iff_getElem?.1 this;exact(k6 i e hi).1
       ·rw[hlen]at hi
        obtain⟨x,hx,_⟩:=get i hi;obtain⟨u,q1,q2⟩:=cell i j x hx hj;show w.cell? _=_;rw[k2.cell];have:L.o+off * sz+i * sz+j=L.o+(off+i) * sz+j:=by rw[Nat.add_mul];omega
        rw[this,q1];simp[Array.getD_eq_getD_getElem?,q1]
       ·rw[hlen]at hi
        obtain⟨x,hx,hx'⟩:=get i hi;obtain⟨u,q1,q2⟩:=cell i j x hx hj;rw[hx'];have:c.getD (L.o+(off+i) * sz+j) undef=u:=by simp[Array.getD_eq_getD_getElem?,q1]
        show VR _ _ (c.getD (L.o+(off+i) * sz+j) undef);rw[this];have hx1:x.pur=true:=by
         have:=pur_getD hp (i:=i) (by rw[hlen];exact hi);rw[hx']at this;exact this
        obtain⟨p1,_,_⟩:=k6 (off+i) x hx;exact q2.pur (fun x u h=>r.sig x u h) (pur_cells hx1 (by omega))
       ·have:e∈el:=List.mem_of_mem_drop (List.mem_of_mem_take he)
        obtain⟨i,hi⟩:=List.mem_iff_getElem?.1 this;exact(k6 i e hi).2.1
    ·cases e
   ·cases e
  ·cases e
 ·split at e
  ·rename_i hp
   cases e;exact⟨hp,plain hp⟩
  ·cases e
theorem viewVs_ok(r:WR C h w):∀{l l':List AV} {vs:Array Value},VRs C l vs->viewVs h l=some l'->(∀a∈l',a.pur=true)/\VRs ⟨fun _=>none,w.cell?⟩ l' vs:=by
 intro l;induction l with
 |nil=>
  intro l' vs hv e;simp only[viewVs,Option.some.injEq]at e;subst e;exact⟨by simp,hv.1,fun i hi=>by simp at hi⟩
 | cons a l ih =>
  intro l' vs hv e;simp only[viewVs]at e;split at e
  ·rename_i x l1 hx hl
   cases e;have h0:VR C a (vs.getD 0 undef):=by simpa using hv.2 0 (by simp)
   obtain⟨p1,p2⟩:=viewV_ok r h0 hx;have hsz:vs.size=l.length+1:=by have:=hv.1;simpa using this
   have ht:VRs C l (vs.extract 1 vs.size):=by
    refine⟨by simp[hsz],fun i hi=>?_⟩;have:=hv.2 (i+1) (by simp;omega);have e2:(vs.extract 1 vs.size).getD i undef=vs.getD (i+1) undef:=by
     simp only[Array.getD_eq_getD_getElem?];rw[Array.getElem?_extract];have:i<vs.size - 1:=by omega
     simp[this,Nat.add_comm]
    rw[e2];simpa using this
   obtain⟨q1,q2⟩:=ih ht hl;refine⟨by simpa[p1]using q1,?_⟩;have:=VRs.cons p2 q2;have e3:#[vs.getD 0 undef]++vs.extract 1 vs.size=vs:=by
    apply Array.ext_getElem?;intro i;cases i with
    |zero=>
     have:0<vs.size:=by omega
     simp[Array.getElem?_append,Array.getD_eq_getD_getElem?,this]
    | succ i =>
     rw[Array.getElem?_append_right (by simp)];simp only[List.size_toArray,List.length_cons,List.length_nil,Nat.zero_add,Nat.add_sub_cancel,Array.getElem?_extract];by_cases hi:i<vs.size - 1
     ·simp[hi,Nat.add_comm]
     ·have:vs.size <=i+1:=by omega
      simp[hi,this]
   rw[e3]at this;exact this
  ·cases e
theorem flat_intr {X : Ctx} (s : Sound X) {f : FuncId} {spec : List AV -> Option AV} (hp : ∀ args v, spec args = some v -> v.flat = true) (hr : ∀ args v, spec args = some v -> ∃ h', Cl X f args emptyHp (.ret v h' none)) : IntrFn X.P f (flatFn spec) := by
  intro args h v h' hg C w vs r hv;unfold flatFn at hg;split at hg
  · rename_i l hl
    split at hg
    · rename_i u hsp
      cases hg;obtain⟨h1,n,hn⟩:=hr l v hsp;have hcall:=hn n (Nat.le_refl _);obtain⟨p1,p2⟩:=viewVs_ok r hv hl;have hok:=s.call n f l emptyHp ⟨fun _=>none,w.cell?⟩ w vs ⟨fun _ _ h=>h,fun id blk e=>by simp[emptyHp,Heap.get]at e,fun id id' blk blk' L L' e=>by simp[emptyHp,Heap.get]at e,fun id blk L x v e=>by simp[emptyHp,Heap.get]at e,fun id L e=>(by cases e),r.base.on r.sig (fun _ _ _=>rfl)⟩ p2 (by rw[hcall];intro e;cases e);refine⟨hok.1,fun cs=>?_⟩;have:=hok.2 cs;rw[hcall]at this;obtain⟨C',w',fr,u,q1,q2,q3,q4,q5,q6⟩:=this;have hsame:∀ β,β<w.heap.size->w'.heap[β]? =w.heap[β]?:=fun β hb=>q6.same β hb emptyHp_live id;refine⟨C,w',fr,u,q1,q2,q3,q4.flat (hp _ _ hsp),⟨fun x u e=>?_,fun id blk e=>?_,r.inj,r.apart,r.fresh,r.base.on (fun _ _ e=>e) (fun x v e=>hsame _ (WR.sig_lt (F:=Fr.mk 0 false .nil .nil h [] none) r e))⟩,?_⟩
      · have h1 := r.sig x u e
        have hb:=WR.sig_lt (F:=Fr.mk 0 false .nil .nil h [] none) r e;unfold World.cell? at h1 ⊢;rw[hsame _ hb];exact h1
      · obtain ⟨L, k1, k2⟩ := r.blk id blk e
        exact⟨L,k1,k2.same (.refl C) (hsame _ k2.lt)⟩
      · exact { le := .refl C, os := q6.os, tape := q6.tape, output := q6.output, size := q6.size, same := fun β hb _ _ => hsame β hb, live := fun β hb l => .inl l,
                own:=fun _ _ o=>o.elim,sig:=fun x u hb e=>.inl e,next:=Nat.le_refl _ }
    · cases hg
  · cases hg
theorem Sound.calls{X:Ctx}(s:Sound X){f:FuncId}{args:List AV}{h h':Heap}{v:AV}(hc:Cl X f args h (.ret v h' none)){C:Cfg}{w:World}{vs:Array Value}(r:WR C h w)(hv:VRs C args vs) :
  Calls X.P f vs w fun e w'=>∃C' u,e= .returned u/\VR C' v u/\WR C' h' w'/\Ext C h (fun _=>False) w C' h' (fun _=>False) w':=by
 intro cs;obtain⟨n,hn⟩:=hc;have hcall:=hn n (Nat.le_refl _);have:=(s.call n f args h C w vs r hv (by rw[hcall];intro e;cases e)).2 cs;rw[hcall]at this;obtain⟨C',w',fr,u,q1,q2,q3,q4,q5,q6⟩:=this;exact⟨.returned u,w',fr,⟨C',u,rfl,q4,q5,q6⟩,q1,q3,q2⟩
end
end Go.AM
