/-
    A part of the proof: contracts of functions.
-/
import Derived.Test.YtgihdicidaipmaaGreatDoorTAM
import Derived.Test.YtgihdicidaipmaaGreatDoorTAD
set_option linter.unusedSectionVars false
set_option linter.unusedVariables false
set_option linter.unusedSimpArgs false
set_option maxRecDepth 100000
set_option maxHeartbeats 16000000
namespace Go.AM
open Go Go.Proofs
variable[Keep]
attribute [local irreducible] W WO WO1 WD WQ WT thenQ blockQ endR isRet retK Cl ClR
attribute [local irreducible] patC memP grownS setP cutF birF daysR
def zeroO:AV:=.agg [.int .i64 0,.int .i64 0,.nilslice,.nilslice,.nilslice]
def askR(b:Bk)(sa:AV)(fb:Bool)(h:Heap)(r:COut):Prop:=
 if (bookB b&&fb)=true then
  if allDays b.moulds=true then ∃dv bv ps h',r= .ret (.tuple [.agg [.int .i64 b.miss,.int .i64 b.ghost,sa,dv,bv],.int .i64 0]) h' none/\OpS h.next b.moulds b.moulds.length b.moulds.length dv bv ps h'/\HExt h h'
  else ∃h',r= .ret (.tuple [zeroO,.int .i64 7]) h' none/\HExt h h'
 else ∃h',r= .ret (.tuple [zeroO,.int .i64 2]) h' none/\HExt h h'
theorem askR_fail{b:Bk}{sa:AV}{fb:Bool}{h:Heap}:¬askR b sa fb h .fail:=by
 unfold askR;split
 ·split
  ·rintro⟨_,_,_,_,e,_⟩;cases e
  ·rintro⟨_,e,_⟩;cases e
 ·rintro⟨_,e,_⟩;cases e
theorem book_ok{b:Bk}(h:bookB b=true):MdsOk b.moulds b.moulds.length:=fun j d hj hd=>by
 unfold bookB at h;simp only[Bool.and_eq_true]at h;exact(bookP_at h.2 hj hd).1
theorem in134_yes{mi gh:Int}{sa:AV}{l:List Md}{h:Heap}{b2:Nat}{r:COut}(hr:in134 mi gh sa l h b2 r)(ha:allDays l=true):∃dv bv ps h',r= .ret (.tuple []) h' none/\h'.get b2=some (.var [.int .i64 mi,.int .i64 gh,sa,dv,bv])/\OpS h.next l l.length l.length dv bv ps h'/\h.next <=h'.next/\∀id,id<h.next->id≠b2->h'.get id=h.get id:=by
 unfold in134 at hr;rw[if_pos ha]at hr;exact hr
theorem in134_no{mi gh:Int}{sa:AV}{l:List Md}{h:Heap}{b2:Nat}{r:COut}(hr:in134 mi gh sa l h b2 r)(ha:allDays l=false):∃h' m,r= .pan (.iface 181 (.agg [.int .i64 m])) h' none/\HExt h h':=by
 unfold in134 at hr;rw[if_neg (by rw[ha];decide)]at hr;exact hr
section
variable{c:Itr}
structure CxA(c:Itr):Prop where
 h74:c 74=none
 h122:c 122=none
 h134:c 134=none
 h135:c 135=none
 h162:c 162=none
 h163:c 163=none
 h137:c 137=none
 h136:c 136=some (flatFnD sp136)
 h120:c 120=some (pureFn sp120)
theorem C74(cx:CxA c)(b:Bk)(sa:AV)(hb:bkV (.agg [.int .i64 b.miss,.int .i64 b.ghost,sa])=some b)(hm:MdsV sa b.moulds)(g:FuncId)(first caps:List AV)(fb:Bool)(hn:Nat)(hm0:Mp Blk)
  (hfi:bookB b=true->Cl (dX c) g ((first++[])++caps) ⟨hn+1,hm0.set hn (.var [.int .i64 b.miss,.int .i64 b.ghost,sa])⟩ (.ret (.bool fb) ⟨hn+1,hm0.set hn (.var [.int .i64 b.miss,.int .i64 b.ghost,sa])⟩ none)) :
  ClR (dX c) 74 [.agg [.int .i64 b.miss,.int .i64 b.ghost,sa],.func (.func g) first caps] ⟨hn,hm0⟩ (askR b sa fb ⟨hn,hm0⟩):=by
 have k120:=fun h=>K120 (X:=dX c) cx.h120 hb h;have hcs:=hm.cells;have hts:=hm.tup;have os:=hm.out;simp only[AV.cells]at hcs;simp only[isTuple]at hts;have hx1:HExt ⟨hn,hm0⟩ ⟨hn+1,hm0.set hn (.var [.int .i64 b.miss,.int .i64 b.ghost,sa])⟩:=⟨Nat.le_succ _,fun id hid=>by
  have hid':id<hn:=hid;exact J10⟩
 have hc:=cx.h74;cases hbb:bookB b with
 | false =>
  have HF0:askR b sa fb ⟨hn,hm0⟩ (.ret (.tuple [zeroO,.int .i64 2]) ⟨hn+1,hm0.set hn (.var [.int .i64 b.miss,.int .i64 b.ghost,sa])⟩ none):=by
   unfold askR;rw[if_neg (by rw[hbb];simp)];exact⟨_,rfl,hx1⟩
  have HF:=J1 HF0;rw[hbb]at k120;clear HF0 hx1 hb hm hfi hbb;refine ClR.walk (c:=_) hc Tryz.func74 rfl (by kernel_rfl) rfl askR_fail ?_
  try simp only[entryEnv,Nat.reduceAdd,List.nil_append,List.cons_append,emptyHp]
  repeat' (first|refine gJ ?_|refine go1 ?_|refine uJ (k120 _) ?_|(refine go2 ?_ ?_<;>intro hh)|fail)
  all_goals (simp only[rV Tryz.func74,Tryz.results74];first|exact J5|refine J6 ?_)
  exact HF.out
 | true =>
  have hfi:=hfi hbb;rw[hbb]at k120;cases fb with
  | false =>
   have HF0:askR b sa false ⟨hn,hm0⟩ (.ret (.tuple [zeroO,.int .i64 2]) ⟨hn+1,hm0.set hn (.var [.int .i64 b.miss,.int .i64 b.ghost,sa])⟩ none):=by
    unfold askR;rw[if_neg (by simp)];exact⟨_,rfl,hx1⟩
   have HF:=J1 HF0;clear HF0 hx1 hb hm hbb;refine ClR.walk (c:=_) hc Tryz.func74 rfl (by kernel_rfl) rfl askR_fail ?_
   try simp only[entryEnv,Nat.reduceAdd,List.nil_append,List.cons_append,emptyHp]
   repeat' (first|refine gJ ?_|(apply U6;exact Z1;exact Z1;(focus (exact hfi));simp only[pM,pN,rR,rP])|refine go1 ?_|refine uJ (k120 _) ?_|(refine go2 ?_ ?_<;>intro hh)|fail)
   all_goals (simp only[rV Tryz.func74,Tryz.results74];first|exact J5|refine J6 ?_)
   exact HF.out
  | true =>
   obtain⟨m2,hm2⟩:∃m2:Mp Blk,m2=((hm0.set hn (.var [.int .i64 b.miss,.int .i64 b.ghost,sa])).set (hn+1) (.var [.int .i64 0,.int .i64 0,.nilslice,.nilslice,.nilslice])):=⟨_,rfl⟩;have h134:=C134 (c:=c) cx.h134 cx.h135 cx.h162 cx.h163 cx.h137 cx.h136 b.miss b.ghost sa b.moulds hm (book_ok hbb) (hn+1+1+1) (m2.set (hn+1+1) (.var [.int .i64 0])) hn (hn+1) [.int .i64 0,.int .i64 0,.nilslice,.nilslice,.nilslice] rfl (by omega) (by omega) (by omega) (by rw[hm2];(simp only[Heap.get_new,Heap.get_put,hp_get,Mp.get_set,reduceIte];repeat (first|rw[if_pos rfl]|rw[if_neg (by omega)]))) (by rw[hm2];(simp only[Heap.get_new,Heap.get_put,hp_get,Mp.get_set,reduceIte];repeat (first|rw[if_pos rfl]|rw[if_neg (by omega)])))
   have hx2:∀h':Heap,hn+1+1+1 <=h'.next->(∀id,id<hn+1+1+1->id≠hn+1->id≠hn+1+1->h'.get id=m2.get id)->HExt ⟨hn,hm0⟩ h':=fun h' w1 w2=>⟨by simp only;omega,fun id hid=>by
    have hid':id<hn:=hid;rw[w2 id (by omega) (by omega) (by omega),hm2];exact J10⟩
   have HX2:=J1 hx2;have HB:=J1 hbb;unfold ClR at h134;obtain⟨r,hcl,hr⟩:=h134;cases had:allDays b.moulds with
   | false =>
    obtain⟨⟨zn,zm⟩,m,rfl,hx⟩:=in134_no hr had;have hgz:zm.get (hn+1+1)=some (.var [.int .i64 0]):=by
     have:=hx.2 (hn+1+1) (by simp only;omega);simp only[hp_get]at this;rw[this];exact J10
    have hct:=C122w c cx.h122 134 [.ptr hn 0,.ptr (hn+1) 0] (hn+1+1) m2 zn zm m 0 hcl hgz;unfold ClR at hct;obtain⟨r,hct,⟨yn,ym⟩,rfl,y1,y2⟩:=hct;have hy1:ym.get (hn+1)=some (.var [.int .i64 0,.int .i64 0,.nilslice,.nilslice,.nilslice]):=by
     have h1:=y2 (hn+1) (by simp only;omega);have h2:=hx.2 (hn+1) (by simp only;omega);simp only[hp_get]at h1 h2;rw[h1,h2,hm2];exact J10
    have HF0:askR b sa true ⟨hn,hm0⟩ (.ret (.tuple [zeroO,.int .i64 7]) ⟨yn,ym⟩ none):=by
     unfold askR;rw[if_pos (by rw[HB.out];rfl),if_neg (by rw[had];decide)];refine⟨_,rfl,HX2.out _ (by have:=hx.1;simp only at *;omega) fun id h1 h2 h3=>?_⟩;have e1:=y2 id h3;have e2:=hx.2 id h1;simp only[hp_get]at e1 e2 ⊢;rw[e1,e2];exact J10
    have HF:=J1 HF0;clear HF0 hx1 hx2 hr hcl hx y1 y2 had hb hm hbb hgz;rw[hm2]at hct;refine ClR.walk (c:=_) hc Tryz.func74 rfl (by kernel_rfl) rfl askR_fail ?_
    try simp only[entryEnv,Nat.reduceAdd,List.nil_append,List.cons_append,emptyHp]
    repeat' (first|refine gJ ?_|(apply U6;exact Z1;exact Z1;(focus (exact hfi));simp only[pM,pN,rR,rP])|refine go1 ?_|refine uJ (k120 _) ?_|refine uJ hct ?_|(refine go2 ?_ ?_<;>intro hh)|fail)
    all_goals (simp only[rV Tryz.func74,Tryz.results74];first|exact J5|refine J6 ?_)
    exact HF.out
   | true =>
    obtain⟨dv,bv,ps,⟨zn,zm⟩,rfl,hg2,hS,hx1',hx⟩:=in134_yes hr had;have hgz:zm.get (hn+1+1)=some (.var [.int .i64 0]):=by
     have:=hx (hn+1+1) (by simp only;omega) (by omega);simp only[hp_get]at this;rw[this];exact J10
    have hct:=C122n c cx.h122 134 [.ptr hn 0,.ptr (hn+1) 0] (hn+1+1) m2 zn zm 0 hcl hgz;unfold ClR at hct;obtain⟨r,hct,⟨yn,ym⟩,rfl,y1,y2⟩:=hct;have hy1:ym.get (hn+1)=some (.var [.int .i64 b.miss,.int .i64 b.ghost,sa,dv,bv]):=by
     have h1:=y2 (hn+1) (by simp only;omega);simp only[hp_get]at h1 hg2;rw[h1,hg2]
    have hS2:OpS (hn+1+1+1) b.moulds b.moulds.length b.moulds.length dv bv ps ⟨yn,ym⟩:=hS.put (b2:=hn+1+1) (by simp only;omega) y1 y2;have HF0:askR b sa true ⟨hn,hm0⟩ (.ret (.tuple [.agg [.int .i64 b.miss,.int .i64 b.ghost,sa,dv,bv],.int .i64 0]) ⟨yn,ym⟩ none):=by
     unfold askR;rw[if_pos (by rw[HB.out];rfl),if_pos had];refine⟨dv,bv,ps,_,rfl,hS2.low (by simp only;omega),HX2.out _ (by simp only at *;omega) fun id h1 h2 h3=>?_⟩;have e1:=y2 id h3;have e2:=hx id h1 h2;simp only[hp_get]at e1 e2 ⊢;rw[e1,e2];exact J10
    have o1:=hS.bd.blt.out;have o2:=hS.bb.blt.out;have o3:=hS.bd.blt.cells;have o4:=hS.bb.blt.cells;have o5:=hS.bd.blt.tup;have o6:=hS.bb.blt.tup;simp only[AV.cells]at o3 o4;simp only[isTuple]at o5 o6;have HF:=J1 HF0;clear HF0 hx1 hx2 hr hcl hx hx1' y1 y2 had hb hm hbb hgz hS hS2 hg2;rw[hm2]at hct;refine ClR.walk (c:=_) hc Tryz.func74 rfl (by kernel_rfl) rfl askR_fail ?_
    try simp only[entryEnv,Nat.reduceAdd,List.nil_append,List.cons_append,emptyHp]
    repeat' (first|refine gJ ?_|(apply U6;exact Z1;exact Z1;(focus (exact hfi));simp only[pM,pN,rR,rP])|refine go1 ?_|refine uJ (k120 _) ?_|refine uJ hct ?_|(refine go2 ?_ ?_<;>intro hh)|fail)
    all_goals (simp only[rV Tryz.func74,Tryz.results74];first|exact J5|refine J6 ?_)
    exact HF.out
end
end Go.AM
namespace Go.AM
open Go
variable[Keep]
variable{X:Ctx}{ops:Array Oper}{F:Fr}{Q:Out->Prop}
def noBoxOp:Op->Bool
 | .box ..=>false
 | .alloc _=>false
 |_=>true
theorem efV_low(cl:FuncId->List AV->Heap->COut)(rd:Nat->List AV->Heap->COut)(F:Fr)(d:Option Tmp){op:Op}(h:noBoxOp op=true):efV (lowX X ops) cl rd F d op=efV X cl rd F d op:=by
 cases op<;>first|rfl|(simp[noBoxOp]at h)
theorem rdV_low(F:Fr)(d:Option Tmp)(op:Op):rdV (lowX X ops) F d op=rdV X F d op:=by
 cases op<;>rfl
def plainOp(o:Oper):Bool:=isAlloc o||noBoxOp o.op
theorem stepD_low{cl:FuncId->List AV->Heap->COut}{rd:Nat->List AV->Heap->COut}{F:Fr}{o:Oper}(h:plainOp o=true):stepD (lowX X ops) cl rd ops o F=stepD X cl rd ops o F:=by
 unfold stepD;by_cases ha:isAlloc o=true
 ·rw[if_pos ha,if_pos ha,rdV_low]
 ·rw[if_neg ha,if_neg ha]
  unfold plainOp at h;have hb:noBoxOp o.op=true:=by simpa[ha]using h
  unfold stepOp;rw[efV_low cl rd F o.dst hb,rdV_low];rfl
theorem runD_low{cl:FuncId->List AV->Heap->COut}{rd:Nat->List AV->Heap->COut}(h:ops.toList.all plainOp=true):∀(l:List Nat) (F:Fr),runD (lowX X ops) cl rd ops l F=runD X cl rd ops l F
 | [],F=>rfl
 | i :: l, F => by
  unfold runD;cases ho:ops[i]? with
  |none=>rfl
  | some o =>
   have hm:o∈ops.toList:=by
    rw[<-Array.getElem?_toList]at ho;exact List.mem_of_getElem? ho
   have hpl:=List.all_eq_true.1 h o hm;simp only[stepD_low hpl];cases stepD X cl rd ops o F with
   |val v F'=>simp only[runD_low h l F']
   |pan v F'=>rfl
   |fail=>rfl
theorem prepAll_low:∀(l:List Oper) (F:Fr),prepAll (lowX X ops) l F=prepAll X l F
 | [],F=>rfl
 |o::l,F=>by
  unfold prepAll;simp only[prepAll_low l];rfl
theorem W.drawH{id:Nat}{F0:Fr}{lc:List Nat}{hot:List (Nat×Nat)}{sl:List Tmp}(hno:drawOk X F.f ops=false)(hok:drawOk (lowX X ops) F.f ops=true)(hb:ops.toList.all plainOp=true)(hc:canon ops=lc)(hh:hotPairs (lowX X ops) F.f ops=hot)(hs:hotSlots X F.f ops=sl)(hp:prepAll X ops.toList F=some F0)
  (h:WD X ops lc F0 (fun F' ts=>hot.all (calmPair X F.f ops ts)=true/\∃F'',promoteAll sl F'=some F''/\Q (.norm F''))):W X (.region id ops true) F Q:=by
 obtain⟨F',ts,⟨n,hn⟩,h1,F'',h2,h3⟩:=h;refine⟨_,Ev.step ⟨n,fun m hm=>?_⟩,h3⟩;have hcalm:hot.all (calmPair (lowX X ops) F.f ops ts)=true:=h1;have e:runDraw (lowX X ops) (callF X (ev X m)) (roundV X (ev X m)) ops F= .norm F':=by
  rw[runDraw_eq];simp only[hok,Bool.not_true,Bool.false_eq_true,if_false,prepAll_low,hp,runD_low hb,hc,hn m hm,hh,hcalm,if_true]
 simp only[evStep,if_true];unfold runDrawP;rw[drawOkF_eq,hno];simp only[Bool.false_eq_true,if_false,e,hs,h2]
end Go.AM
namespace Go.AM
open Go Go.Proofs
variable[Keep]
attribute [local irreducible] W WO WO1 WD WQ WT thenQ blockQ endR isRet retK Cl ClR
section
attribute [local irreducible] roundQ RdR patC memP grownS setP cutF birF
theorem prom_ex{sl:List Tmp}{F F2:Fr}{Q:Out->Prop}(h:promoteAll sl F=some F2)(q:Q (.norm F2)):∃F2,promoteAll sl F=some F2/\Q (.norm F2):=⟨_,h,q⟩
def OpO(l:List Md)(dv bv:AV)(h:Heap):Prop:=∃b ps,OpS b l l.length l.length dv bv ps h
theorem OpO.keep{l:List Md}{dv bv:AV}{h h':Heap}(q:OpO l dv bv h)(x:HExt h h'):OpO l dv bv h':=by
 obtain⟨b,ps,q⟩:=q;exact⟨b,ps,q.keep x⟩
structure BirV(l:List Md)(bv:AV)(m:Nat)(rid pid:Nat)(els:List AV)(h:Heap):Prop where
 row:bv= .row rid 0 l.length
 get:h.get rid=some (.rw 1 els)
 elt:els[m]? =some (.ptr pid 0)
 pat:h.get pid=some (.var (patC (birF l m)))
 rlt:rid<h.next
 plt:pid<h.next
theorem OpO.bir{l:List Md}{dv bv:AV}{h:Heap}(q:OpO l dv bv h){m:Nat}(hm:m<l.length):∃rid pid els,BirV l bv m rid pid els h:=by
 obtain⟨b,ps,q⟩:=q;obtain⟨p,hp⟩:=get_some (l:=ps) (k:=m) (by have:=q.ln;omega);have hne:ptrsE ps≠[]:=by
  unfold ptrsE;intro e;have e:=congrArg List.length e;have:=q.ln;simp at e;subst e;simp at hp
 obtain⟨rid,h1,h2,_,h3⟩:=q.bb.row hne;have hl:(ptrsE ps).length=l.length:=by unfold ptrsE;rw[List.length_map];exact q.ln
 rw[hl]at h1;have:=q.pt m p hp;exact⟨rid,p,ptrsE ps,h1,h2,by unfold ptrsE;rw[List.getElem?_map,hp];rfl,this.1,h3,this.2.2⟩
def birthN(l:List Md)(m:Nat):List Nat:=memP (birF l m) 256
def sureI(l:List Md)(m:Nat)(d:Md)(s:Int):Int:=orI (sureM d.marks s) ((birthN l m).foldl (fun(r:Int) (n:Nat)=>andI r n) (-1))
def canI(l:List Md)(m:Nat)(d:Md)(s:Int):Int:=(birthN l m).foldl (fun(r:Int) (n:Nat)=>orI r n) (canM d.marks s)
def BoxI(tid:Nat)(h0:Heap)(s:Int)(h:Heap):Prop:=h.get tid=some (.var [.int .i64 s])/\h.next=h0.next/\∀id,id≠tid->h.get id=h0.get id
def valR(v:AV)(h:Heap)(r:COut):Prop:=∃h',r= .ret v h' none/\HExt h h'
theorem valR_fail{v:AV}{h:Heap}:¬valR v h .fail:=by rintro⟨_,e,_⟩;cases e
section
variable{c:Itr}
theorem C78(hc:c 78=none)(hc1:c 137=none)(h136:(dX c).intr 136=some (flatFnD sp136))(mi gh:Int)(sa dv bv:AV)(od:outV (some dv)=some dv)(l:List Md)(hm:MdsV sa l)(m:Nat)(d:Md)(hd:l[m]? =some d)(hok:spotsOk d.marks=true)(s:Int)
  (hn:Nat) (hm0:Mp Blk) (hO:OpO l dv bv ⟨hn,hm0⟩) :
  ClR (dX c) 78 [.agg [.int .i64 mi,.int .i64 gh,sa,dv,bv,.int .i64 (m:Int),.int .i64 s]] ⟨hn,hm0⟩ (valR (.int .i64 (sureI l m d s)) ⟨hn,hm0⟩):=by
 have os:=hm.out;have hml:m<l.length:=(List.getElem?_eq_some_iff.1 hd).1;obtain⟨ma,la,v1,v2,hix⟩:=hm.elem m d hd;have om:=sl_out v1;have ol:=sl_out v2;have k136:=fun h=>K136 (X:=dX c) h136 (p:=d.parent) (clo:=d.clo) (chi:=d.chi) v1 v2 hok s h;obtain⟨rid,pid,els,⟨hrow,g1,g2,g3,l1,l2⟩⟩:=hO.bir hml;subst hrow;have hib:=fun hx (e:Heap.get hx rid=some (.rw 1 els))=>row_idx (t:=111) (e:=161) Tryz.underlying111 ty_lay161 e hml;have hop:=intOp_andI;simp only at l1 l2;simp only[hp_get]at g1 g3;have r1:(hn==rid)=false:=by rw[beq_eq_false_iff_ne];omega
 have hret:sureI l m d s=orI (sureM d.marks s) ((birthN l m).foldl (fun(r:Int) (n:Nat)=>andI r n) (-1)):=rfl;rw[hret];unfold birthN;generalize sureM d.marks s=su at *;generalize canM d.marks s=ca at *;clear hm hd hok v1 v2 hret;refine ClR.walk (c:=_) hc Tryz.func78 rfl (by kernel_rfl) rfl valR_fail ?_
 try simp only[entryEnv,Nat.reduceAdd,List.nil_append,List.cons_append,emptyHp]
 repeat' (first|(apply W.drawQ (id:=1) (l1:=[0,1,2,3,4,5,6,7,8,9,10,11,12,13,14,15]) (l2:=[]);kernel_rfl;kernel_rfl;kernel_rfl;exact Z4)|refine go1 ?_|refine uJ (k136 _) ?_|(refine go2 ?_ ?_<;>intro hh)|fail)
 refine W.rangeSt (fid:=137) (first:=[.ptr pid 0]) (capt:=[]) (BoxI hn) NoD (foldS (fun(n:Nat) (r:Int)=>(andI r n,true)) (memP (birF l m) 256) (-1)) (by rfl) ?_ ?_ ?_ ?_ ?_
 ·first|exact Z2|exact Z1
 ·refine C137 _ _ _ hc1 (birF l m) pid (hn+1) ?_ ?_ (-1) _ ⟨?_,rfl,fun _ _=>rfl⟩
  ·intro s h hs
   rw[hs.2.2 pid (by omega)]
   (simp only[Heap.get_new,Heap.get_put,hp_get,Mp.get_set,reduceIte];repeat (first|rw[if_pos rfl]|rw[if_neg (by omega)]))
   exact g3
  ·intro n s h hn1 hn2 hs
   have hL0:=hs.2.2 (hn+1) (by omega);rw[Heap.get_new,if_pos rfl]at hL0;obtain⟨er,hE,hL⟩:∃er,er=_/\h.get (hn+1)=some (.loop 78 er _ _ _ .ready none):=⟨_,rfl,hL0⟩;clear hL0;have r7:er.get 5=some (.ptr hn 0):=by rw[hE,Mp.get_map];simp[go_sem, *,noBox]
   obtain⟨hs1,hs2,hs3⟩:=hs;generalize Heap.new _ _=H0 at *;refine round_ok' hL rfl ?_;have HL:=J1 hL;clear hL hE;repeat' (first|refine goS ?_|(refine go2 ?_ ?_<;>intro hh)|fail)
   rintro⟨qn,qm⟩ hqn hqg hqL;have zo:=(hqg hn (by omega)).trans hs1;have HQN:=J1 hqn;have HQG:=J1 hqg;have HQL:=J1 hqL;simp only[hp_get]at zo;clear hqn hqg hqL hs1;repeat' (first|refine goS ?_|(refine go2 ?_ ?_<;>intro hh)|fail)
   refine round_go (s':=andI s n) HQL.out ?_ rfl ?_
   ·exact J10
   refine⟨?_,?_,?_⟩
   ·exact J10
   ·exact HQN.out.trans hs2
   ·intro id hid
    by_cases h5:id=hn+1
    ·subst h5
     rw[Heap.get_put,if_pos rfl,<-hs3 _ hid,HL.out]
    ·rw[Heap.get_put,if_neg (fun e=>h5 e.symm),hp_get,Mp.get_set,if_neg (Ne.symm hid),<-hp_get (n:=qn),HQG.out id h5,hs3 _ hid]
  ·exact J10
 ·intro s h hs
  rw[hs.2.2 (hn+1) (by omega),Heap.get_new,if_pos rfl]
 ·intro hx h hs
  obtain⟨hs1,hs2,hs3⟩:=hs;rw[foldS_all]at hs1;simp only at hs1;generalize (memP (birF l m) 256).foldl (fun(r:Int) (n:Nat)=>andI r n) (-1)=res at *;generalize hput:Heap.put h _ _=hz;obtain⟨zn,zm⟩:=hz;have z1:zm.get hn=some (.var [.int .i64 res]):=by
   rw[<-hp_get (n:=zn),<-hput,Heap.get_put,if_neg (by simp only;omega)];exact hs1
  have z3:HExt ⟨hn,hm0⟩ ⟨zn,zm⟩:=by
   rw[<-hput];refine⟨by simp only[Heap.put,hs2,Heap.new];omega,fun id hid=>?_⟩;have hid':id<hn:=hid;rw[Heap.get_put,if_neg (by simp only;omega),hs3 id (by omega)];exact J10
  have Z3:=J1 z3;have hor:=intOp_orI;clear hput hs1 hs2 hs3 z3 hx hop;simp only[bN,tN];repeat' (first|refine goS ?_|(refine go2 ?_ ?_<;>intro hh)|fail)
  all_goals (simp only[rV Tryz.func78,Tryz.results78];first|exact J5|refine J6 ?_)
  exact⟨_,rfl,Z3.out⟩
 ·intro hx h hs
  exact hs.elim
theorem C79(hc:c 79=none)(hc1:c 137=none)(h136:(dX c).intr 136=some (flatFnD sp136))(mi gh:Int)(sa dv bv:AV)(od:outV (some dv)=some dv)(l:List Md)(hm:MdsV sa l)(m:Nat)(d:Md)(hd:l[m]? =some d)(hok:spotsOk d.marks=true)(s:Int)
  (hn:Nat) (hm0:Mp Blk) (hO:OpO l dv bv ⟨hn,hm0⟩) :
  ClR (dX c) 79 [.agg [.int .i64 mi,.int .i64 gh,sa,dv,bv,.int .i64 (m:Int),.int .i64 s]] ⟨hn,hm0⟩ (valR (.int .i64 (canI l m d s)) ⟨hn,hm0⟩):=by
 have os:=hm.out;have hml:m<l.length:=(List.getElem?_eq_some_iff.1 hd).1;obtain⟨ma,la,v1,v2,hix⟩:=hm.elem m d hd;have om:=sl_out v1;have ol:=sl_out v2;have k136:=fun h=>K136 (X:=dX c) h136 (p:=d.parent) (clo:=d.clo) (chi:=d.chi) v1 v2 hok s h;obtain⟨rid,pid,els,⟨hrow,g1,g2,g3,l1,l2⟩⟩:=hO.bir hml;subst hrow;have hib:=fun hx (e:Heap.get hx rid=some (.rw 1 els))=>row_idx (t:=111) (e:=161) Tryz.underlying111 ty_lay161 e hml;have hop:=intOp_orI;simp only at l1 l2;simp only[hp_get]at g1 g3;have r1:(hn==rid)=false:=by rw[beq_eq_false_iff_ne];omega
 have hret:canI l m d s=(birthN l m).foldl (fun(r:Int) (n:Nat)=>orI r n) (canM d.marks s):=rfl;rw[hret];unfold birthN;generalize sureM d.marks s=su at *;generalize canM d.marks s=ca at *;clear hm hd hok v1 v2 hret;refine ClR.walk (c:=_) hc Tryz.func79 rfl (by kernel_rfl) rfl valR_fail ?_
 try simp only[entryEnv,Nat.reduceAdd,List.nil_append,List.cons_append,emptyHp]
 repeat' (first|(apply W.drawH (id:=1) (lc:=[14,0,1,2,3,4,5,6,7,8,9,10,11,12,13,15,16]) (hot:=[]) (sl:=[4]);kernel_rfl;kernel_rfl;kernel_rfl;kernel_rfl;kernel_rfl;kernel_rfl;exact Z4)|(apply WD.cons (o:=⟨some 15,_,_,_,_,none⟩);exact rfl;exact rfl)|(apply WD.cons (o:=⟨some 16,_,_,_,_,none⟩);exact rfl;exact rfl)|(apply WD.cons (o:=⟨some 17,_,_,_,_,none⟩);exact rfl;exact rfl)|(apply WD.cons (o:=⟨some 6,_,_,_,_,none⟩);exact rfl;exact rfl)|(apply WD.cons (o:=⟨some 18,_,_,_,_,none⟩);exact rfl;exact rfl)|(apply WD.cons (o:=⟨some 19,_,_,_,_,none⟩);exact rfl;exact rfl)|(apply WD.alloc (o:=⟨some 4,.alloc 3,0,_,_,none⟩);exact rfl;exact rfl;exact Z1;simp only[pM,pN])|(apply WD.cons (o:=⟨some 3,_,_,_,_,none⟩);exact rfl;exact rfl)|(apply WD.cons (o:=⟨none,.store 3 (.tmp 4) (.tmp 19),_,_,_,none⟩);exact rfl;exact rfl)|(refine WD.cons rfl rfl ?_)|(apply WD.nil;refine⟨rfl,?_⟩;apply prom_ex;(focus (simp only[go_sem, *,Nat.reduceLT,Int.reduceEq,Int.reduceBEq,Int.reduceLE,Int.reduceLT,Nat.reduceAdd,Nat.reduceBEq,Nat.reduceEqDiff,reduceIte,Nat.reduceLeDiff,Nat.reduceMul,Nat.reduceSub,reduceCtorEq,promoteAll,promote1,and_self,if_true];with_reducible rfl));simp only[tN,bN,eN,true_and])|refine go1 ?_|refine uJ (k136 _) ?_|(refine go2 ?_ ?_<;>intro hh)|fail)
 refine W.rangeSt (fid:=137) (first:=[.ptr pid 0]) (capt:=[]) (BoxI hn) NoD (foldS (fun(n:Nat) (r:Int)=>(orI r n,true)) (memP (birF l m) 256) (ca:Int)) (by rfl) ?_ ?_ ?_ ?_ ?_
 ·first|exact Z2|exact Z1
 ·refine C137 _ _ _ hc1 (birF l m) pid (hn+1) ?_ ?_ (ca:Int) _ ⟨?_,rfl,fun _ _=>rfl⟩
  ·intro s h hs
   rw[hs.2.2 pid (by omega)]
   (simp only[Heap.get_new,Heap.get_put,hp_get,Mp.get_set,reduceIte];repeat (first|rw[if_pos rfl]|rw[if_neg (by omega)]))
   exact g3
  ·intro n s h hn1 hn2 hs
   have hL0:=hs.2.2 (hn+1) (by omega);rw[Heap.get_new,if_pos rfl]at hL0;obtain⟨er,hE,hL⟩:∃er,er=_/\h.get (hn+1)=some (.loop 79 er _ _ _ .ready none):=⟨_,rfl,hL0⟩;clear hL0;have r7:er.get 4=some (.ptr hn 0):=by rw[hE,Mp.get_map];simp[go_sem, *,noBox]
   obtain⟨hs1,hs2,hs3⟩:=hs;generalize Heap.new _ _=H0 at *;refine round_ok' hL rfl ?_;have HL:=J1 hL;clear hL hE;repeat' (first|refine goS ?_|(refine go2 ?_ ?_<;>intro hh)|fail)
   rintro⟨qn,qm⟩ hqn hqg hqL;have zo:=(hqg hn (by omega)).trans hs1;have HQN:=J1 hqn;have HQG:=J1 hqg;have HQL:=J1 hqL;simp only[hp_get]at zo;clear hqn hqg hqL hs1;repeat' (first|refine goS ?_|(refine go2 ?_ ?_<;>intro hh)|fail)
   refine round_go (s':=orI s n) HQL.out ?_ rfl ?_
   ·exact J10
   refine⟨?_,?_,?_⟩
   ·exact J10
   ·exact HQN.out.trans hs2
   ·intro id hid
    by_cases h5:id=hn+1
    ·subst h5
     rw[Heap.get_put,if_pos rfl,<-hs3 _ hid,HL.out]
    ·rw[Heap.get_put,if_neg (fun e=>h5 e.symm),hp_get,Mp.get_set,if_neg (Ne.symm hid),<-hp_get (n:=qn),HQG.out id h5,hs3 _ hid]
  ·exact J10
 ·intro s h hs
  rw[hs.2.2 (hn+1) (by omega),Heap.get_new,if_pos rfl]
 ·intro hx h hs
  obtain⟨hs1,hs2,hs3⟩:=hs;rw[foldS_all]at hs1;simp only at hs1;generalize (memP (birF l m) 256).foldl (fun(r:Int) (n:Nat)=>orI r n) (ca:Int)=res at *;generalize hput:Heap.put h _ _=hz;obtain⟨zn,zm⟩:=hz;have z1:zm.get hn=some (.var [.int .i64 res]):=by
   rw[<-hp_get (n:=zn),<-hput,Heap.get_put,if_neg (by simp only;omega)];exact hs1
  have z3:HExt ⟨hn,hm0⟩ ⟨zn,zm⟩:=by
   rw[<-hput];refine⟨by simp only[Heap.put,hs2,Heap.new];omega,fun id hid=>?_⟩;have hid':id<hn:=hid;rw[Heap.get_put,if_neg (by simp only;omega),hs3 id (by omega)];exact J10
  have Z3:=J1 z3;have hor:=intOp_orI;clear hput hs1 hs2 hs3 z3 hx hop;simp only[bN,tN];repeat' (first|refine goS ?_|(refine go2 ?_ ?_<;>intro hh)|fail)
  all_goals (simp only[rV Tryz.func79,Tryz.results79];first|exact J5|refine J6 ?_)
  exact⟨_,rfl,Z3.out⟩
 ·intro hx h hs
  exact hs.elim
end
end
section
attribute [local irreducible] roundQ RdR patC memP grownS setP cutF birF
def numB(l:List Md)(n:Int):Bool:=inB n 0 ((l.length:Int) - 1)
def findB(seen day:Int):Bool:=inB seen 0 255&&inB day 0 99
def sp76:List AV->Option AV
 | [a,.int .i64 n]=>(bkV a).map fun b=>.bool (numB b.moulds n)
 |_=>none
theorem p76:∀args v,sp76 args=some v->v.pur=true:=by
 intro args v h;unfold sp76 at h;split at h
 ·rw[Option.map_eq_some_iff]at h
  obtain⟨b,_,rfl⟩:=h;rfl
 ·cases h
theorem F76:IntrFn Tryz.prog 76 (pureFn sp76):=by
 refine pure_fn (X:=dX c1) c1_sound p76 ?_;intro args v h;unfold sp76 at h;split at h
 ·rw[Option.map_eq_some_iff]at h
  obtain⟨b,hb,rfl⟩:=h;obtain⟨sa,rfl,hm⟩:=bk_is hb;have os:=hm.out;have hlen:=hm.len;have hw:IntKind.i64.wrap ((b.moulds.length:Int) - 1)=(b.moulds.length:Int) - 1:=wrap_small (by omega) (by have:=hm.max;unfold maxL at this;omega);have h119:(dX c1).intr 119=some (pureFn sp119):=rfl;clear hm hb;refine ClR.walk (c:=_) rfl Tryz.func76 rfl (by kernel_rfl) rfl isRet_fail ?_;simp only[entryEnv,Nat.reduceAdd];repeat' (first|refine goS ?_|refine uJ (K119 h119 _ _ _ _) ?_|(refine go2 ?_ ?_<;>intro hh)|fail)
  all_goals (simp only[rV Tryz.func76,Tryz.results76];first|exact J5|refine J6 ?_)
  rfl
 ·cases h
theorem K76{X:Ctx}(hX:X.intr 76=some (pureFn sp76)){a:AV}{b:Bk}(hb:bkV a=some b)(n:Int)(h:Heap):Cl X 76 [a,.int .i64 n] h (.ret (.bool (numB b.moulds n)) h none):=
 Cl.intr hX (by simp only[pureFn,AV.purL,AV.pur,bk_pur hb,Bool.and_self,if_true,sp76,hb,Option.map_some])
def sp89:List AV->Option AV
 | [.agg [.int .i64 s,.int .i64 d]]=>some (.bool (findB s d))
 |_=>none
theorem p89:∀args v,sp89 args=some v->v.pur=true:=by
 intro args v h;unfold sp89 at h;split at h
 ·cases h;rfl
 ·cases h
noncomputable def c89:Itr
 |119=>some (pureFn sp119)
 |100=>some (pureFn sp100)
 |_=>none
theorem c89_sound:Sound (dX c89):=dX_sound (fun f g h=>by
 unfold c89 at h;split at h
 ·cases h;exact F119
 ·cases h;exact F100
 ·cases h)
theorem F89:IntrFn Tryz.prog 89 (pureFn sp89):=by
 refine pure_fn (X:=dX c89) c89_sound p89 ?_;intro args v h;unfold sp89 at h;split at h
 ·rename_i s d
  cases h;have h119:(dX c89).intr 119=some (pureFn sp119):=rfl;have h100:(dX c89).intr 100=some (pureFn sp100):=rfl;cases h1:inB s 0 255
  ·skip
   refine ClR.walk (c:=_) rfl Tryz.func89 rfl (by kernel_rfl) rfl isRet_fail ?_;simp only[entryEnv,Nat.reduceAdd];repeat' (first|refine gJ ?_|refine go1 ?_|refine uJ (K119 h119 _ _ _ _) ?_|refine uJ (K100 h100 _ _) ?_|(refine go2 ?_ ?_<;>intro hh)|fail)
   all_goals (simp only[rV Tryz.func89,Tryz.results89];first|exact J5|refine J6 ?_)
   simp[findB,h1]
  ·skip
   refine ClR.walk (c:=_) rfl Tryz.func89 rfl (by kernel_rfl) rfl isRet_fail ?_;simp only[entryEnv,Nat.reduceAdd];repeat' (first|refine gJ ?_|refine go1 ?_|refine uJ (K119 h119 _ _ _ _) ?_|refine uJ (K100 h100 _ _) ?_|(refine go2 ?_ ?_<;>intro hh)|fail)
   all_goals (simp only[rV Tryz.func89,Tryz.results89];first|exact J5|refine J6 ?_)
   simp[findB,h1]
 ·cases h
theorem K89{X:Ctx}(hX:X.intr 89=some (pureFn sp89))(s d:Int)(h:Heap):Cl X 89 [.agg [.int .i64 s,.int .i64 d]] h (.ret (.bool (findB s d)) h none):=Cl.intr hX rfl
structure CxB(c:Itr):Prop extends CxA c where
 h76:c 76=some (pureFn sp76)
 h77:c 77=some (pureFn sp77)
 h89:c 89=some (pureFn sp89)
 h100:c 100=some (pureFn sp100)
section
variable{c:Itr}
theorem C75(cx:CxB c)(hc:c 75=none){a:AV}{cs:List AV}{b:Bk}(hb:bkV a=some b)(ha:a= .agg cs)(hl:cs.length=3)(m s:Int)(i j k:Nat)(h:Heap)(g1:h.get i=some (.var cs))(g2:h.get j=some (.var [.int .i64 m]))(g3:h.get k=some (.var [.int .i64 s])) :
  Cl (dX c) 75 [.ptr i 0,.ptr j 0,.ptr k 0] h (.ret (.bool (numB b.moulds m&&inB s 1 36)) h none):=by
 refine ClR.cl ?_;have k76:=fun h=>K76 (X:=dX c) cx.h76 hb m h;have h77:(dX c).intr 77=some (pureFn sp77):=cx.h77;subst ha;obtain⟨hn,hm⟩:=h;obtain⟨sa,hsa,hmd⟩:=bk_is hb;have hsa:=AV.agg.inj hsa;subst hsa;have os:=hmd.out;simp only[hp_get]at g1 g2 g3;clear hb hmd hl;cases h1:numB b.moulds m
 ·rw[h1]at k76
  refine ClR.walk (c:=_) hc Tryz.func75 rfl (by kernel_rfl) rfl (fun e=>by cases e) ?_
  try simp only[entryEnv,Nat.reduceAdd,List.nil_append,List.cons_append,emptyHp]
  repeat' (first|refine gJ ?_|refine go1 ?_|refine uJ (k76 _) ?_|refine uJ (K77 h77 _ _) ?_|(refine go2 ?_ ?_<;>intro hh)|fail)
  all_goals (simp only[rV Tryz.func75,Tryz.results75];first|exact J5|refine J6 ?_)
  all_goals simp[isR,frzRes,dX_frz,dFrz]
 ·rw[h1]at k76
  refine ClR.walk (c:=_) hc Tryz.func75 rfl (by kernel_rfl) rfl (fun e=>by cases e) ?_
  try simp only[entryEnv,Nat.reduceAdd,List.nil_append,List.cons_append,emptyHp]
  repeat' (first|refine gJ ?_|refine go1 ?_|refine uJ (k76 _) ?_|refine uJ (K77 h77 _ _) ?_|(refine go2 ?_ ?_<;>intro hh)|fail)
  all_goals (simp only[rV Tryz.func75,Tryz.results75];first|exact J5|refine J6 ?_)
  all_goals simp[isR,frzRes,dX_frz,dFrz]
theorem arr_0(H:Heap)(s g:Nat):indexAddrV Tryz.prog H 118 (.lptr s g 0) (.int .i64 0)=some (.lptr s g 0):=by simp[indexAddrV,Tryz.underlying118,ty_lay3,idxV,ptrAdd]
theorem arr_1(H:Heap)(s g:Nat):indexAddrV Tryz.prog H 118 (.lptr s g 0) (.int .i64 1)=some (.lptr s g 1):=by simp[indexAddrV,Tryz.underlying118,ty_lay3,idxV,ptrAdd]
def mdAt(b:Bk)(m:Int):Md:=b.moulds.getD m.toNat ⟨0,0,0,[],[]⟩
def knownV(b:Bk)(m s:Int):AV:=
 if (bookB b&&(numB b.moulds m&&inB s 1 36))=true then
  if allDays b.moulds=true then .tuple [.int .i64 (sureI b.moulds m.toNat (mdAt b m) s),.int .i64 (canI b.moulds m.toNat (mdAt b m) s),.int .i64 0]
  else .tuple [.int .i64 0,.int .i64 0,.int .i64 7]
 else .tuple [.int .i64 0,.int .i64 0,.int .i64 2]
attribute [local irreducible] sureI canI
theorem C22(cx:CxB c)(hc:c 22=none)(hc75:c 75=none)(hc78:c 78=none)(hc79:c 79=none)(b:Bk)(sa:AV)(hb:bkV (.agg [.int .i64 b.miss,.int .i64 b.ghost,sa])=some b)(hm:MdsV sa b.moulds)(m s:Int) :
  ClR (dX c) 22 [.agg [.int .i64 b.miss,.int .i64 b.ghost,sa],.int .i64 m,.int .i64 s] emptyHp (isRet (knownV b m s)):=by
 have os:=hm.out;have hcs:=hm.cells;have hts:=hm.tup;have h75:=fun hn hm'=>C75 cx hc75 hb rfl rfl m s 0 1 2 ⟨hn,hm'⟩;obtain⟨m3,hm3⟩:∃m3:Mp Blk,m3=(((Mp.nil.set 0 (.var [.int .i64 b.miss,.int .i64 b.ghost,sa])).set 1 (.var [.int .i64 m])).set 2 (.var [.int .i64 s])):=⟨_,rfl⟩;have h74:=C74 cx.toCxA b sa hb hm 75 [] [.ptr 0 0,.ptr 1 0,.ptr 2 0] (numB b.moulds m&&inB s 1 36) 3 m3 (fun _=>h75 _ _ (by rw[hm3];(simp only[Heap.get_new,Heap.get_put,hp_get,Mp.get_set,reduceIte];repeat (first|rw[if_pos rfl]|rw[if_neg (by omega)]))) (by rw[hm3];(simp only[Heap.get_new,Heap.get_put,hp_get,Mp.get_set,reduceIte];repeat (first|rw[if_pos rfl]|rw[if_neg (by omega)]))) (by rw[hm3];(simp only[Heap.get_new,Heap.get_put,hp_get,Mp.get_set,reduceIte];repeat (first|rw[if_pos rfl]|rw[if_neg (by omega)]))))
 unfold ClR at h74;obtain⟨r,hca,hr⟩:=h74;simp only[AV.cells]at hcs;simp only[isTuple]at hts;unfold askR at hr;unfold knownV;rw[hm3]at hca;cases hb1:(bookB b&&(numB b.moulds m&&inB s 1 36))with
 |false=>
  rw[hb1]at hr;simp only[Bool.false_eq_true,if_false]at hr ⊢;obtain⟨⟨zn,zm⟩,rfl,_⟩:=hr;have h2:((2:Int) !=0)=true:=rfl;unfold zeroO at hca;clear hb hm h75;refine ClR.walk (c:=_) hc Tryz.func22 rfl (by kernel_rfl) rfl isRet_fail ?_
  try simp only[entryEnv,Nat.reduceAdd,List.nil_append,List.cons_append,emptyHp]
  repeat' (first|refine goS ?_|refine uJ hca ?_|(refine go2 ?_ ?_<;>intro hh)|fail)
  all_goals (simp only[rV Tryz.func22,Tryz.results22];first|exact J5|refine J6 ?_)
 | true =>
  rw[hb1]at hr;simp only[if_true]at hr ⊢;cases had:allDays b.moulds with
  |false=>
   rw[had]at hr;simp only[Bool.false_eq_true,if_false]at hr ⊢;obtain⟨⟨zn,zm⟩,rfl,_⟩:=hr;have h2:((7:Int) !=0)=true:=rfl;unfold zeroO at hca;clear hb hm h75;refine ClR.walk (c:=_) hc Tryz.func22 rfl (by kernel_rfl) rfl isRet_fail ?_
   try simp only[entryEnv,Nat.reduceAdd,List.nil_append,List.cons_append,emptyHp]
   repeat' (first|refine goS ?_|refine uJ hca ?_|(refine go2 ?_ ?_<;>intro hh)|fail)
   all_goals (simp only[rV Tryz.func22,Tryz.results22];first|exact J5|refine J6 ?_)
  | true =>
   rw[had]at hr;simp only[if_true]at hr ⊢;obtain⟨dv,bv,ps,⟨zn,zm⟩,rfl,hS,hx⟩:=hr;simp only[Bool.and_eq_true]at hb1;obtain⟨hbk,hnb,hst⟩:=hb1;simp only[numB,inB,Bool.and_eq_true,decide_eq_true_eq]at hnb;obtain⟨d,hd⟩:=get_some (l:=b.moulds) (k:=m.toNat) (by omega);have hmd:mdAt b m=d:=by unfold mdAt;rw[List.getD,hd];rfl
   have hok:=spots_of (n:=m.toNat) (by have:=hm.max;omega) (book_ok hbk m.toNat d (by omega) hd);have hO:OpO b.moulds dv bv ⟨zn,zm⟩:=⟨_,ps,hS⟩;have o1:=hS.bd.blt.out;have o2:=hS.bb.blt.out;have o3:=hS.bd.blt.cells;have o4:=hS.bb.blt.cells;have o5:=hS.bd.blt.tup;have o6:=hS.bb.blt.tup;simp only[AV.cells]at o3 o4;simp only[isTuple]at o5 o6;have q1:zm.get 1=some (.var [.int .i64 m]):=(hx.2 1 (by show 1<3;decide)).trans (by rw[hm3];exact J10);have q2:zm.get 2=some (.var [.int .i64 s]):=(hx.2 2 (by show 2<3;decide)).trans (by rw[hm3];exact J10);have h2:((0:Int) !=0)=false:=rfl;have hme:((m.toNat:Nat):Int)=m:=by omega
   have hc78':=C78 hc78 cx.h137 cx.h136 b.miss b.ghost sa dv bv o1 b.moulds hm m.toNat d hd hok s zn zm hO;unfold ClR at hc78';obtain⟨r,hc78',⟨yn,ym⟩,rfl,hy⟩:=hc78';have hc79':=C79 hc79 cx.h137 cx.h136 b.miss b.ghost sa dv bv o1 b.moulds hm m.toNat d hd hok s yn ym (hO.keep hy);unfold ClR at hc79';obtain⟨r,hc79',⟨xn,xm⟩,rfl,hx2⟩:=hc79';rw[hme]at hc78' hc79';rw[hmd];generalize sureI b.moulds m.toNat d s=su at *;generalize canI b.moulds m.toNat d s=ca at *;clear hb hm h75 hS hO hd hok hy hx hx2 hbk hnb hst;refine ClR.walk (c:=_) hc Tryz.func22 rfl (by kernel_rfl) rfl isRet_fail ?_
   try simp only[entryEnv,Nat.reduceAdd,List.nil_append,List.cons_append,emptyHp]
   repeat' (first|refine goS ?_|refine uJ hca ?_|(refine go2 ?_ ?_<;>intro hh)|fail)
   refine W.loopV (2) [12,32] [] (fun k e lm hp=>e.get 33=some (.int .i64 ↑k)/\lm.get 12=some (0,[.int .i64 (if k=0 then 0 else su),.int .i64 (if k <=1 then 0 else ca)])/\hp=(if k=0 then ⟨zn,zm⟩else if k=1 then ⟨yn,ym⟩else ⟨xn,xm⟩)) ?_ ?_
   ·skip
    refine⟨?_,?_,rfl⟩;all_goals simp[go_sem, *]
   intro k e lm hp hk0 hce hcl hinv;simp only[keepE,and_true]at hce;obtain⟨c12,c32⟩:=hce;simp only[go_sem, *,Nat.reduceBEq,Nat.reduceEqDiff,reduceIte]at c12 c32;clear hcl;obtain⟨h33,g12,hh0⟩:=hinv;by_cases hlt:k<2
   ·have hd0:=dT hlt
    have hv_0:=wrap_succ hlt (by unfold maxL;omega);obtain rfl|rfl:k=0\/k=1:=by omega
    ·have h33':e.get 33=some (.int .i64 0):=h33
     have hd2:decide ((0:Int)<2)=true:=rfl;have hw1:IntKind.i64.wrap (0+1)=1:=rfl;have hu:=Tryz.underlying120;have hi:idxV (.int .i64 0) 2=some 0:=rfl;have hr:=fun(x y:AV)=>(rfl:[x,y][0 * 1]? =some x);have ha:=arr_0;simp only[if_true]at hh0;subst hh0;clear h33 hv_0 hd0;repeat' (first|refine goS ?_|refine uJ hc78' ?_|(refine go2 ?_ ?_<;>intro hh)|fail)
     all_goals refine contV_mk J9 J7 J8 ?_
     all_goals refine⟨?_,?_,?_⟩
     all_goals first|exact Z2|skip
     all_goals first|rfl|(simp[go_sem, *];done)
    ·have h33':e.get 33=some (.int .i64 1):=h33
     have hd2:decide ((1:Int)<2)=true:=rfl;have hw1:IntKind.i64.wrap (1+1)=2:=rfl;have hu:=Tryz.underlying120;have hi:idxV (.int .i64 1) 2=some 1:=rfl;have hr:=fun(x y:AV)=>(rfl:[x,y][1 * 1]? =some y);have ha:=arr_1;simp only[show ¬(1:Nat)=0 by decide,if_false,if_true]at hh0;subst hh0;clear h33 hv_0 hd0;repeat' (first|refine goS ?_|refine uJ hc79' ?_|(refine go2 ?_ ?_<;>intro hh)|fail)
     all_goals refine contV_mk J9 J7 J8 ?_
     all_goals refine⟨?_,?_,?_⟩
     all_goals first|exact Z2|skip
     all_goals first|rfl|(simp[go_sem, *];done)
   ·have hd0:=dF hlt
    obtain rfl:k=2:=by omega
    have hd2:decide (((2:Nat):Int)<2)=false:=rfl;have ha0:=arr_0;have ha1:=arr_1;simp only[show ¬(2:Nat)=0 by decide,show ¬(2:Nat)=1 by decide,show ¬(2:Nat) <=1 by decide,if_false]at hh0 g12;subst hh0;repeat' (first|(apply W.drawQ (id:=11) (l1:=[0,1,2,3,4,5,6]) (l2:=[]);kernel_rfl;kernel_rfl;kernel_rfl;exact Z4)|refine go1 ?_|(refine go2 ?_ ?_<;>intro hh)|fail)
    all_goals (simp only[rV Tryz.func22,Tryz.results22];first|exact J5|refine J6 ?_)
end
end
section
section
variable{c:Itr}
theorem C81(hc:c 81=none)(n:Nat)(hn:n <=60)(h:Heap):ClR (dX c) 81 [.int .i64 (n:Int)] h (isRet (.int .i64 ((2 ^ n:Nat):Int))):=by
 have hmx:n <=maxL:=by unfold maxL;omega
 refine ClR.walk (c:=_) hc Tryz.func81 rfl (by kernel_rfl) rfl isRet_fail ?_
 try simp only[entryEnv,Nat.reduceAdd,List.nil_append,List.cons_append,emptyHp]
 repeat' (first|refine goS ?_|(refine go2 ?_ ?_<;>intro hh)|fail)
 refine W.loopH (n) [0] [] (fun k e lm=>e.get 4=some (.int .i64 ↑k)/\e.get 3=some (.int .i64 ((2 ^ k:Nat):Int))) ?_ ?_
 ·refine⟨?_,?_⟩<;>first|exact Z2|rfl|assumption|(simp[go_sem, *];done)
 intro k e lm hk0 hce hcl hinv;simp only[keepE,and_true]at hce;have c0:=hce;clear hce;simp only[go_sem, *,Nat.reduceBEq,Nat.reduceEqDiff,reduceIte]at c0;clear hcl;obtain⟨h4,h3⟩:=hinv;by_cases hlt:k<n
 ·have hd0:=dT hlt
  have hv_0:=wrap_succ hlt hmx;have hp1:(2 ^ (k+1):Nat) <=2 ^ 60:=Nat.pow_le_pow_right (by omega) (by omega);have hp2:(2:Nat) ^ 60=1152921504606846976:=by decide
  have hp3:2 ^ (k+1)=2 * 2 ^ k:=by rw[Nat.pow_succ];omega
  have hw:IntKind.i64.wrap (2 * ((2 ^ k:Nat):Int))=((2 ^ (k+1):Nat):Int):=by
   rw[wrap_small (by omega) (by omega)];omega
  have HLT0:=J1 hlt;clear hp1 hp2 hp3 hlt;repeat' (first|refine goS ?_|(refine go2 ?_ ?_<;>intro hh)|fail)
  all_goals refine contH_mk J9 J7 J8 ?_
  all_goals refine⟨?_,?_⟩
  all_goals first|exact Z2|skip
 ·have hd0:=dF hlt
  obtain rfl:k=n:=by omega
  repeat' (first|refine goS ?_|(refine go2 ?_ ?_<;>intro hh)|fail)
  all_goals (simp only[rV Tryz.func81,Tryz.results81];first|exact J5|refine J6 ?_)
end
def sp81:List AV->Option AV
 | [.int .i64 n]=>if 0 <=n/\n <=60 then some (.int .i64 ((2 ^ n.toNat:Nat):Int))else none
 |_=>none
theorem p81:∀args v,sp81 args=some v->v.pur=true:=by
 intro args v h;unfold sp81 at h;split at h
 ·split at h
  ·cases h;rfl
  ·cases h
 ·cases h
theorem F81:IntrFn Tryz.prog 81 (pureFn sp81):=by
 refine pure_fn (X:=dX i0) i0_sound p81 ?_;intro args v h;unfold sp81 at h;split at h
 ·split at h
  ·rename_i n hn
   cases h;have e:n=((n.toNat:Nat):Int):=by omega
   have:=C81 (c:=i0) rfl n.toNat (by omega) emptyHp;rw[<-e]at this;exact this
  ·cases h
 ·cases h
theorem K81{X:Ctx}(hX:X.intr 81=some (pureFn sp81))(n:Nat)(hn:n <=60)(h:Heap):Cl X 81 [.int .i64 (n:Int)] h (.ret (.int .i64 ((2 ^ n:Nat):Int)) h none):=
 Cl.intr hX (by
  have h0:(0:Int) <=(n:Int)/\(n:Int) <=60:=by omega
  simp only[pureFn,AV.purL,AV.pur,Bool.and_self,if_true,sp81,if_pos h0,Int.toNat_natCast])
def hasB(s k:Int):Bool:=s.toNat.testBit k.toNat
def sp133:List AV->Option AV
 | [.int .i64 s,.int .i64 k]=>if (0 <=s/\s<1024)/\0 <=k/\k <=60 then some (.bool (hasB s k))else none
 |_=>none
theorem p133:∀args v,sp133 args=some v->v.pur=true:=by
 intro args v h;unfold sp133 at h;split at h
 ·split at h
  ·cases h;rfl
  ·cases h
 ·cases h
noncomputable def cSB:Itr
 |80=>some (pureFn sp80)
 |81=>some (pureFn sp81)
 |_=>none
theorem cSB_sound:Sound (dX cSB):=dX_sound (fun f g h=>by
 unfold cSB at h;split at h
 ·cases h;exact F80
 ·cases h;exact F81
 ·cases h)
theorem has_quo(s k:Nat):((((s:Int).tdiv ((2 ^ k:Nat):Int)).tmod 2)==1)=s.testBit k:=by
 rw[<-Int.ofNat_tdiv,Int.tmod_eq_emod_of_nonneg (Int.natCast_nonneg _),Nat.testBit_eq_decide_div_mod_eq];rw[Bool.eq_iff_iff,beq_iff_eq,decide_eq_true_eq];generalize s / 2 ^ k=q;omega
theorem F133:IntrFn Tryz.prog 133 (pureFn sp133):=by
 refine pure_fn (X:=dX cSB) cSB_sound p133 ?_;intro args v h;unfold sp133 at h;split at h
 ·split at h
  ·rename_i s k hb
   cases h;obtain⟨⟨h1,h2⟩,h3,h4⟩:=hb;have e1:s=((s.toNat:Nat):Int):=by omega
   have e2:k=((k.toNat:Nat):Int):=by omega
   unfold hasB;have h5:s.toNat<1024:=by omega
   have h6:k.toNat <=60:=by omega
   generalize s.toNat=u at *;generalize k.toNat=w at *;subst e1 e2;have k81:=K81 (X:=dX cSB) rfl w h6;have hp:0<2 ^ w:=Nat.pow_pos (by omega);have hne:(((2 ^ w:Nat):Int)==0)=false:=by rw[beq_eq_false_iff_ne];omega
   have hq:=has_quo u w;have hdl:u / 2 ^ w <=u:=Nat.div_le_self ..;have w1:IntKind.i64.wrap ((u:Int).tdiv ((2 ^ w:Nat):Int))=(u:Int).tdiv ((2 ^ w:Nat):Int):=by
    rw[<-Int.ofNat_tdiv];generalize u / 2 ^ w=q at *;exact wrap_small (by omega) (by omega)
   have w2:IntKind.i64.wrap (((u:Int).tdiv ((2 ^ w:Nat):Int)).tmod 2)=((u:Int).tdiv ((2 ^ w:Nat):Int)).tmod 2:=by
    rw[<-Int.ofNat_tdiv,Int.tmod_eq_emod_of_nonneg (Int.natCast_nonneg _)];generalize u / 2 ^ w=q;exact wrap_small (by omega) (by omega)
   have h22:((2:Int)==0)=false:=rfl;rw[<-hq];clear hp hdl hq h1 h2 h3 h4 h5 h6;generalize (2 ^ w:Nat)=z at *;refine ClR.walk (c:=_) rfl Tryz.func133 rfl (by kernel_rfl) rfl isRet_fail ?_;simp only[entryEnv,Nat.reduceAdd];repeat' (first|refine goS ?_|refine uJ (k81 _) ?_|(refine go2 ?_ ?_<;>intro hh)|fail)
   all_goals (simp only[rV Tryz.func133,Tryz.results133];first|exact J5|refine J6 ?_)
   try rfl
  ·cases h
 ·cases h
theorem K133{X:Ctx}(hX:X.intr 133=some (pureFn sp133))(s k:Nat)(hs:s<1024)(hk:k <=60)(h:Heap):Cl X 133 [.int .i64 (s:Int),.int .i64 (k:Int)] h (.ret (.bool (s.testBit k)) h none):=
 Cl.intr hX (by
  have h0:((0:Int) <=(s:Int)/\(s:Int)<1024)/\(0:Int) <=(k:Int)/\(k:Int) <=60:=by omega
  simp only[pureFn,AV.purL,AV.pur,Bool.and_self,if_true,sp133,if_pos h0,hasB,Int.toNat_natCast])
def sp41:List AV->Option AV
 | [.int .i64 n]=>some (.bool (inB n 0 255))
 |_=>none
theorem p41:∀args v,sp41 args=some v->v.pur=true:=by
 intro args v h;unfold sp41 at h;split at h
 ·cases h;rfl
 ·cases h
theorem F41:IntrFn Tryz.prog 41 (pureFn sp41):=by
 refine pure_fn (X:=dX cSB) cSB_sound p41 ?_;intro args v h;unfold sp41 at h;split at h
 ·cases h
  rename_i n;have k81:=K81 (X:=dX cSB) rfl 8 (by omega);have e8:((2 ^ 8:Nat):Int)=256:=rfl;rw[e8]at k81;have h80:(dX cSB).intr 80=some (pureFn sp80):=rfl;have hw:IntKind.i64.wrap (256 - 1)=255:=by decide
  clear e8;refine ClR.walk (c:=_) rfl Tryz.func41 rfl (by kernel_rfl) rfl isRet_fail ?_;simp only[entryEnv,Nat.reduceAdd];repeat' (first|refine goS ?_|refine uJ (k81 _) ?_|refine uJ (K80 h80 _ _ _ _) ?_|(refine go2 ?_ ?_<;>intro hh)|fail)
  all_goals (simp only[rV Tryz.func41,Tryz.results41];first|exact J5|refine J6 ?_)
  try rfl
 ·cases h
theorem K41{X:Ctx}(hX:X.intr 41=some (pureFn sp41))(n:Int)(h:Heap):Cl X 41 [.int .i64 n] h (.ret (.bool (inB n 0 255)) h none):=Cl.intr hX rfl
noncomputable def cSC:Itr
 |80=>some (pureFn sp80)
 |41=>some (pureFn sp41)
 |_=>none
theorem cSC_sound:Sound (dX cSC):=dX_sound (fun f g h=>by
 unfold cSC at h;split at h
 ·cases h;exact F80
 ·cases h;exact F41
 ·cases h)
def sp33:List AV->Option AV
 | [.agg [.int .i64 s,.int .i64 d]]=>some (.bool (findB s d))
 |_=>none
theorem p33:∀args v,sp33 args=some v->v.pur=true:=by
 intro args v h;unfold sp33 at h;split at h
 ·cases h;rfl
 ·cases h
theorem F33:IntrFn Tryz.prog 33 (pureFn sp33):=by
 refine pure_fn (X:=dX cSC) cSC_sound p33 ?_;intro args v h;unfold sp33 at h;split at h
 ·cases h
  rename_i s d;have k41:=fun n h=>K41 (X:=dX cSC) rfl n h;have h80:(dX cSC).intr 80=some (pureFn sp80):=rfl;unfold findB;cases h1:inB s 0 255
  ·rw[Bool.false_and]
   have k41:=k41 s;rw[h1]at k41;refine ClR.walk (c:=_) rfl Tryz.func33 rfl (by kernel_rfl) rfl isRet_fail ?_;simp only[entryEnv,Nat.reduceAdd];repeat' (first|refine goS ?_|refine uJ (k41 _) ?_|refine uJ (K80 h80 _ _ _ _) ?_|(refine go2 ?_ ?_<;>intro hh)|fail)
   all_goals (simp only[rV Tryz.func33,Tryz.results33];first|exact J5|refine J6 ?_)
  ·rw[Bool.true_and]
   have k41:=k41 s;rw[h1]at k41;refine ClR.walk (c:=_) rfl Tryz.func33 rfl (by kernel_rfl) rfl isRet_fail ?_;simp only[entryEnv,Nat.reduceAdd];repeat' (first|refine goS ?_|refine uJ (k41 _) ?_|refine uJ (K80 h80 _ _ _ _) ?_|(refine go2 ?_ ?_<;>intro hh)|fail)
   all_goals (simp only[rV Tryz.func33,Tryz.results33];first|exact J5|refine J6 ?_)
   try rfl
 ·cases h
theorem K33{X:Ctx}(hX:X.intr 33=some (pureFn sp33))(s d:Int)(h:Heap):Cl X 33 [.agg [.int .i64 s,.int .i64 d]] h (.ret (.bool (findB s d)) h none):=Cl.intr hX rfl
def sp24:List AV->Option AV
 | [a,.int .i64 n]=>(bkV a).map fun b=>.bool (numB b.moulds n)
 |_=>none
theorem p24:∀args v,sp24 args=some v->v.pur=true:=by
 intro args v h;unfold sp24 at h;split at h
 ·rw[Option.map_eq_some_iff]at h
  obtain⟨b,_,rfl⟩:=h;rfl
 ·cases h
theorem F24:IntrFn Tryz.prog 24 (pureFn sp24):=by
 refine pure_fn (X:=dX cSB) cSB_sound p24 ?_;intro args v h;unfold sp24 at h;split at h
 ·rw[Option.map_eq_some_iff]at h
  obtain⟨b,hb,rfl⟩:=h;obtain⟨sa,rfl,hm⟩:=bk_is hb;have os:=hm.out;have hlen:=hm.len;have hw:IntKind.i64.wrap ((b.moulds.length:Int) - 1)=(b.moulds.length:Int) - 1:=wrap_small (by omega) (by have:=hm.max;unfold maxL at this;omega);have h80:(dX cSB).intr 80=some (pureFn sp80):=rfl;clear hm hb;refine ClR.walk (c:=_) rfl Tryz.func24 rfl (by kernel_rfl) rfl isRet_fail ?_;simp only[entryEnv,Nat.reduceAdd];repeat' (first|refine goS ?_|refine uJ (K80 h80 _ _ _ _) ?_|(refine go2 ?_ ?_<;>intro hh)|fail)
  all_goals (simp only[rV Tryz.func24,Tryz.results24];first|exact J5|refine J6 ?_)
  rfl
 ·cases h
theorem K24{X:Ctx}(hX:X.intr 24=some (pureFn sp24)){a:AV}{b:Bk}(hb:bkV a=some b)(n:Int)(h:Heap):Cl X 24 [a,.int .i64 n] h (.ret (.bool (numB b.moulds n)) h none):=
 Cl.intr hX (by simp only[pureFn,AV.purL,AV.pur,bk_pur hb,Bool.and_self,if_true,sp24,hb,Option.map_some])
end
section
noncomputable def cBB:Itr
 |136=>some (flatFnD sp136)
 |120=>some (pureFn sp120)
 |76=>some (pureFn sp76)
 |77=>some (pureFn sp77)
 |89=>some (pureFn sp89)
 |100=>some (pureFn sp100)
 |_=>none
theorem cBB_sound:Sound (dX cBB):=dX_sound (fun f g h=>by
 unfold cBB at h;split at h
 ·cases h;exact F136
 ·cases h;exact F120
 ·cases h;exact F76
 ·cases h;exact F77
 ·cases h;exact F89
 ·cases h;exact F100
 ·cases h)
theorem cBB_x:CxB cBB:={ h74:=rfl,h122:=rfl,h134:=rfl,h135:=rfl,h162:=rfl,h163:=rfl,h137:=rfl,h136:=rfl,h120:=rfl,h76:=rfl,h77:=rfl,h89:=rfl,h100:=rfl }
def sp22:List AV->Option AV
 | [a,.int .i64 m,.int .i64 s]=>(bkV a).map fun b=>knownV b m s
 |_=>none
theorem p22:∀args v,sp22 args=some v->v.pur=true:=by
 intro args v h;unfold sp22 at h;split at h
 ·rw[Option.map_eq_some_iff]at h
  obtain⟨b,_,rfl⟩:=h;unfold knownV;split
  ·split<;>rfl
  ·rfl
 ·cases h
theorem F22:IntrFn Tryz.prog 22 (pureFn sp22):=by
 refine pure_fn (X:=dX cBB) cBB_sound p22 ?_;intro args v h;unfold sp22 at h;split at h
 ·rw[Option.map_eq_some_iff]at h
  obtain⟨b,hb,rfl⟩:=h;obtain⟨sa,rfl,hm⟩:=bk_is hb;exact C22 cBB_x rfl rfl rfl rfl b sa hb hm _ _
 ·cases h
def shrI(a b:Int):Int:=a.fdiv (2 ^ min b.toNat 64)
theorem intOp_shrU{a b:Int}(h:0 <=b):intOp .shr .u64 a b=some (.int .u64 (shrI a b)):=by
 have:¬b<0:=by omega
 simp only[intOp,if_neg this];rfl
def andU(a b:Int):Int:=IntKind.u64.wrap ((BitVec.ofInt 64 a &&& BitVec.ofInt 64 b).toNat)
theorem intOp_andU(a b:Int):intOp .and .u64 a b=some (.int .u64 (andU a b)):=rfl
def addU(a b:Int):Int:=IntKind.u64.wrap (a+b)
def ocA(x:Int):Int:=addU (andU (shrI x 1) 6148914691236517205) (andU x 6148914691236517205)
def ocB(x:Int):Int:=addU (andU (shrI x 2) 3689348814741910323) (andU x 3689348814741910323)
def ocC(x:Int):Int:=andU (addU (shrI x 4) x) 1085102592571150095
def ocD(x:Int):Int:=addU x (shrI x 8)
def ocE(x:Int):Int:=addU x (shrI x 16)
def ocG(x:Int):Int:=addU x (shrI x 32)
def ocF(x:Int):Int:=andI (IntKind.i64.wrap (ocG (ocE (ocD (ocC (ocB (ocA x))))))) 127
def sp171:List AV->Option AV
 | [.int .u64 x]=>some (.int .i64 (ocF x))
 |_=>none
theorem p171:∀args v,sp171 args=some v->v.pur=true:=by
 intro args v h;unfold sp171 at h;split at h<;>cases h;rfl
theorem F171:IntrFn Tryz.prog 171 (pureFn sp171):=by
 refine pure_fn (X:=dX i0) i0_sound p171 ?_;intro args v h;unfold sp171 at h;split at h
 ·rename_i x
  cases h;have s1:∀a,intOp .shr .u64 a 1=some (.int .u64 (shrI a 1)):=fun a=>intOp_shrU (by decide);have s2:∀a,intOp .shr .u64 a 2=some (.int .u64 (shrI a 2)):=fun a=>intOp_shrU (by decide);have s4:∀a,intOp .shr .u64 a 4=some (.int .u64 (shrI a 4)):=fun a=>intOp_shrU (by decide);have s8:∀a,intOp .shr .u64 a 8=some (.int .u64 (shrI a 8)):=fun a=>intOp_shrU (by decide);have s16:∀a,intOp .shr .u64 a 16=some (.int .u64 (shrI a 16)):=fun a=>intOp_shrU (by decide);have s32:∀a,intOp .shr .u64 a 32=some (.int .u64 (shrI a 32)):=fun a=>intOp_shrU (by decide);have a1:=intOp_andU;have a2:=intOp_andI;refine ClR.walk (c:=_) rfl Tryz.func171 rfl (by kernel_rfl) rfl isRet_fail ?_;simp only[entryEnv,Nat.reduceAdd];repeat' (first|refine goS ?_|(refine go2 ?_ ?_<;>intro hh)|fail)
  all_goals (simp only[rV Tryz.func171,Tryz.results171];first|exact J5|refine J6 ?_)
  all_goals rfl
 ·cases h
def cntN(n:Nat):Nat:=n % 2+n / 2 % 2+n / 4 % 2+n / 8 % 2+n / 16 % 2+n / 32 % 2+n / 64 % 2+n / 128 % 2
theorem oc_all:((List.range 256).all fun n=>decide (ocF (n:Int)=((cntN n:Nat):Int)))=true:=by decide+kernel
theorem oc_cnt{n:Nat}(h:n<256):ocF (n:Int)=((cntN n:Nat):Int):=by
 have:=List.all_eq_true.1 oc_all n (List.mem_range.2 h);exact of_decide_eq_true this
attribute [irreducible] ocF
section
variable{c:Itr}
theorem C146(hc:c 146=none)(h171:(dX c).intr 171=some (pureFn sp171))(n:Nat)(hn:n<256)(h:Heap):Cl (dX c) 146 [.int .u64 (n:Int)] h (.ret (.int .i64 ((cntN n:Nat):Int)) h none):=by
 refine ClR.cl ?_;have k171:∀h,Cl (dX c) 171 [.int .u64 (n:Int)] h (.ret (.int .i64 (ocF n)) h none):=fun h=>Cl.intr h171 rfl;rw[oc_cnt hn]at k171;generalize cntN n=z at *;refine ClR.walk (c:=_) hc Tryz.func146 rfl (by kernel_rfl) rfl (fun e=>by cases e) ?_
 try simp only[entryEnv,Nat.reduceAdd,List.nil_append,List.cons_append,emptyHp]
 repeat' (first|refine goS ?_|refine uJ (k171 _) ?_|(refine go2 ?_ ?_<;>intro hh)|fail)
 all_goals (simp only[rV Tryz.func146,Tryz.results146];first|exact J5|refine J6 ?_)
 all_goals rfl
open Go.Mo7 (minN minN_le)
theorem min_lt{a b:Nat}(ha:a<256):minN a b<256:=Nat.lt_of_le_of_lt (minN_le (by omega)) ha
theorem wrap_u{n:Nat}(h:n<256):IntKind.u64.wrap (n:Int)=(n:Int):=by
 simp[IntKind.wrap,IntKind.bits,IntKind.signed];omega
theorem C165(hc:c 165=none)(hc1:c 146=none)(h171:(dX c).intr 171=some (pureFn sp171))(s x y:Nat)(hs:s<256)(hx:x<256)(h:Heap):Cl (dX c) 165 [.agg [.int .i64 (s:Int),.int .i64 (x:Int),.int .i64 (y:Int)]] h (.ret (.int .i64 ((cntN (minN x s):Nat):Int)) h none):=by
 refine ClR.cl ?_;have hop:=op_not (a:=x) (b:=s) (by omega) (by omega);have hml:=min_lt (b:=s) hx;have hcv:=wrap_u hml;have hu3:=Tryz.underlying3;have hu172:=Tryz.underlying172;have k146:=fun h=>C146 hc1 h171 (minN x s) hml h;generalize minN x s=z at *;refine ClR.walk (c:=_) hc Tryz.func165 rfl (by kernel_rfl) rfl (fun e=>by cases e) ?_
 try simp only[entryEnv,Nat.reduceAdd,List.nil_append,List.cons_append,emptyHp]
 repeat' (first|refine goS ?_|refine uJ (k146 _) ?_|(refine go2 ?_ ?_<;>intro hh)|fail)
 all_goals (simp only[rV Tryz.func165,Tryz.results165];first|exact J5|refine J6 ?_)
 all_goals rfl
theorem C166(hc:c 166=none)(hc1:c 146=none)(h171:(dX c).intr 171=some (pureFn sp171))(s x y:Nat)(hs:s<256)(hy:y<256)(h:Heap):Cl (dX c) 166 [.agg [.int .i64 (s:Int),.int .i64 (x:Int),.int .i64 (y:Int)]] h (.ret (.int .i64 ((cntN (minN s y):Nat):Int)) h none):=by
 refine ClR.cl ?_;have hop:=op_not (a:=s) (b:=y) (by omega) (by omega);have hml:=min_lt (b:=y) hs;have hcv:=wrap_u hml;have hu3:=Tryz.underlying3;have hu172:=Tryz.underlying172;have k146:=fun h=>C146 hc1 h171 (minN s y) hml h;generalize minN s y=z at *;refine ClR.walk (c:=_) hc Tryz.func166 rfl (by kernel_rfl) rfl (fun e=>by cases e) ?_
 try simp only[entryEnv,Nat.reduceAdd,List.nil_append,List.cons_append,emptyHp]
 repeat' (first|refine goS ?_|refine uJ (k146 _) ?_|(refine go2 ?_ ?_<;>intro hh)|fail)
 all_goals (simp only[rV Tryz.func166,Tryz.results166];first|exact J5|refine J6 ?_)
 all_goals rfl
def rightB(mi gh:Int)(s x y:Nat):Bool:=decide ((cntN (minN x s):Int) <=mi)&&decide ((cntN (minN s y):Int) <=gh)
theorem C141(hc:c 141=none)(hc0:c 165=none)(hc2:c 166=none)(hc1:c 146=none)(h171:(dX c).intr 171=some (pureFn sp171))(mi gh:Int)(sa dv bv:AV)(o1:outV (some sa)=some sa)(o2:outV (some dv)=some dv)(o3:outV (some bv)=some bv)(s x y:Nat)(hs:s<256)(hx:x<256)(hy:y<256)(h:Heap) :
  Cl (dX c) 141 [.agg [.int .i64 mi,.int .i64 gh,sa,dv,bv],.agg [.int .i64 (s:Int),.int .i64 (x:Int),.int .i64 (y:Int)]] h (.ret (.bool (rightB mi gh s x y)) h none):=by
 refine ClR.cl ?_;have k165:=fun h=>C165 hc0 hc1 h171 s x y hs hx h;have k166:=fun h=>C166 hc2 hc1 h171 s x y hs hy h;have hrb:rightB mi gh s x y=(decide ((cntN (minN x s):Int) <=mi)&&decide ((cntN (minN s y):Int) <=gh)):=rfl;rw[hrb];generalize cntN (minN x s)=A at *;generalize cntN (minN s y)=B at *;clear hrb hs hx hy;have hu7:=Tryz.underlying197;have hu8:=Tryz.underlying118;have hi0:idxV (.int .i64 0) 2=some 0:=rfl;have hi1:idxV (.int .i64 1) 2=some 1:=rfl;have hr0:=fun(x y:AV)=>(rfl:[x,y][0 * 1]? =some x);have hr1:=fun(x y:AV)=>(rfl:[x,y][1 * 1]? =some y);refine ClR.walk (c:=_) hc Tryz.func141 rfl (by kernel_rfl) rfl (fun e=>by cases e) ?_
 try simp only[entryEnv,Nat.reduceAdd,List.nil_append,List.cons_append,emptyHp]
 repeat' (first|refine goS ?_|(refine go2 ?_ ?_<;>intro hh)|fail)
 refine W.loopH (2) [2,3,7] [2,3] (fun k e lm=>e.get 8=some (.int .i64 ↑k)/\(1 <=k->decide ((A:Int) <=mi)=true)/\(2 <=k->decide ((B:Int) <=gh)=true)) ?_ ?_
 ·skip
  refine⟨?_,(fun h=>by omega),(fun h=>by omega)⟩;simp[go_sem, *]
 intro k e lm hk0 hce hcl hinv;simp only[keepE,and_true]at hce;obtain⟨c2,c3,c7⟩:=hce;simp only[go_sem, *,Nat.reduceBEq,Nat.reduceEqDiff,reduceIte]at c2 c3 c7;simp only[keepL,and_true]at hcl;obtain⟨d2,d3⟩:=hcl;simp only[go_sem, *,Nat.reduceBEq,Nat.reduceEqDiff,reduceIte]at d2 d3;obtain⟨h8,hq,hq2⟩:=hinv;by_cases hlt:k<2
 ·have hd0:=dT hlt
  have hv_0:=wrap_succ hlt (by unfold maxL;omega);obtain rfl|rfl:k=0\/k=1:=by omega
  ·have h33':e.get 8=some (.int .i64 0):=h8
   have hd2:decide ((0:Int)<2)=true:=rfl;have hw1:IntKind.i64.wrap (0+1)=1:=rfl;clear h8 hv_0 hd0 hq hq2;cases hA:decide ((A:Int)>mi)with
   |true=>
    have hA2:decide ((A:Int) <=mi)=false:=by simp only[decide_eq_true_eq]at hA;simp only[decide_eq_false_iff_not];omega
    rw[hA2,Bool.false_and];clear hA2;repeat' (first|(apply W.drawQ (id:=4) (l1:=[0,1,2,3,4,5,6,7,8,9,10,11,12]) (l2:=[]);kernel_rfl;kernel_rfl;kernel_rfl;exact Z4)|refine go1 ?_|refine uJ (k165 _) ?_|(refine go2 ?_ ?_<;>intro hh)|fail)
    all_goals (simp only[rV Tryz.func141,Tryz.results141];first|exact J5|refine J6 ?_)
    all_goals rfl
   |false=>
    have hA2:decide ((A:Int) <=mi)=true:=by simp only[decide_eq_false_iff_not]at hA;simp only[decide_eq_true_eq];omega
    have HA2:=J1 hA2;clear hA2;repeat' (first|(apply W.drawQ (id:=4) (l1:=[0,1,2,3,4,5,6,7,8,9,10,11,12]) (l2:=[]);kernel_rfl;kernel_rfl;kernel_rfl;exact Z4)|refine go1 ?_|refine uJ (k165 _) ?_|(refine go2 ?_ ?_<;>intro hh)|fail)
    all_goals refine contH_mk J9 J7 J8 ?_
    all_goals refine⟨?_,fun _=>HA2.out,fun h=>by omega⟩
    all_goals first|exact Z2|skip
    all_goals (simp only[go_sem, *,Nat.reduceLT,Int.reduceEq,Int.reduceBEq,Int.reduceLE,Int.reduceLT,Nat.reduceAdd,Nat.reduceBEq,Nat.reduceEqDiff,reduceIte,Nat.reduceLeDiff,Nat.reduceMul,Nat.reduceSub,reduceCtorEq];rfl)
  ·have h33':e.get 8=some (.int .i64 1):=h8
   have hd2:decide ((1:Int)<2)=true:=rfl;have hw1:IntKind.i64.wrap (1+1)=2:=rfl;have hq1:=hq (by omega);have HQ1:=J1 hq1;rw[hq1,Bool.true_and];clear h8 hv_0 hd0 hq hq2 hq1;cases hA:decide ((B:Int)>gh)with
   |true=>
    have hA2:decide ((B:Int) <=gh)=false:=by simp only[decide_eq_true_eq]at hA;simp only[decide_eq_false_iff_not];omega
    rw[hA2];clear hA2;repeat' (first|(apply W.drawQ (id:=4) (l1:=[0,1,2,3,4,5,6,7,8,9,10,11,12]) (l2:=[]);kernel_rfl;kernel_rfl;kernel_rfl;exact Z4)|refine go1 ?_|refine uJ (k166 _) ?_|(refine go2 ?_ ?_<;>intro hh)|fail)
    all_goals (simp only[rV Tryz.func141,Tryz.results141];first|exact J5|refine J6 ?_)
    all_goals rfl
   |false=>
    have hA2:decide ((B:Int) <=gh)=true:=by simp only[decide_eq_false_iff_not]at hA;simp only[decide_eq_true_eq];omega
    have HA2:=J1 hA2;clear hA2;repeat' (first|(apply W.drawQ (id:=4) (l1:=[0,1,2,3,4,5,6,7,8,9,10,11,12]) (l2:=[]);kernel_rfl;kernel_rfl;kernel_rfl;exact Z4)|refine go1 ?_|refine uJ (k166 _) ?_|(refine go2 ?_ ?_<;>intro hh)|fail)
    all_goals refine contH_mk J9 J7 J8 ?_
    all_goals refine⟨?_,fun _=>(by first|exact HQ1.out|trivial),fun _=>HA2.out⟩
    all_goals first|exact Z2|skip
    all_goals (simp only[go_sem, *,Nat.reduceLT,Int.reduceEq,Int.reduceBEq,Int.reduceLE,Int.reduceLT,Nat.reduceAdd,Nat.reduceBEq,Nat.reduceEqDiff,reduceIte,Nat.reduceLeDiff,Nat.reduceMul,Nat.reduceSub,reduceCtorEq];rfl)
 ·have hd0:=dF hlt
  obtain rfl:k=2:=by omega
  have hd2:decide (((2:Nat):Int)<2)=false:=rfl;rw[hq (by omega),hq2 (by omega)];clear hq hq2;repeat' (first|refine goS ?_|(refine go2 ?_ ?_<;>intro hh)|fail)
  all_goals (simp only[rV Tryz.func141,Tryz.results141];first|exact J5|refine J6 ?_)
  all_goals rfl
end
end
end Go.AM
