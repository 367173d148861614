/-
    A part of the proof: contracts of functions.
-/
import Derived.Test.YtgihdicidaipmaaGreatDoorTAN
import Derived.Test.YtgihdicidaipmaaGreatDoorTAU
import Derived.Test.YtgihdicidaipmaaGreatDoorTAP
import Derived.Test.YtgihdicidaipmaaGreatDoorTAF
import Derived.Test.YtgihdicidaipmaaGreatDoorTAO
import Derived.Test.YtgihdicidaipmaaGreatDoorTAI
set_option linter.unusedSectionVars false
set_option linter.unusedVariables false
set_option linter.unusedSimpArgs false
set_option maxRecDepth 100000
set_option maxHeartbeats 16000000
namespace Go.AM
open Go Go.Proofs
variable[Keep]
attribute [local irreducible] W WO WO1 WD WQ WT thenQ blockQ endR isRet retK Cl ClR
section
attribute [local irreducible] goneB
def sp49:List AV->Option AV
 | [a,ga]=>(bkV a).bind fun b=>(slV intC ga).map fun gone=>.bool (goneB b.moulds.length gone)
 |_=>none
section
variable{c:Itr}
end
attribute [local irreducible] bfrB
def sp52:List AV->Option AV
 | [a,b]=>(slV intC a).bind fun l=>(slV intC b).map fun r=>.bool (bfrB l r)
 |_=>none
section
variable{c:Itr}
end
def shortM(d:Md):Bool:=!(decide ((d.marks.length:Int)>6)||decide ((d.loans.length:Int)>5))
def shortB(b:Bk):Bool:=(b.moulds.take 8).all shortM&&decide ((b.moulds.length:Int) <=7)
theorem all_at{α:Type}{p:α->Bool}{l:List α}{k:Nat}{x:α}(h:l[k]? =some x)(ha:(l.take k).all p=true):(l.take (k+1)).all p=p x:=by rw[take_next h,List.all_append,ha];simp
theorem short_no{b:Bk}{k:Nat}{d:Md}(hd:b.moulds[k]? =some d)(hk:k<8)(h:shortM d=false):shortB b=false:=by
 unfold shortB;have:(b.moulds.take 8).all shortM=false:=by
  rw[List.all_eq_false];exact⟨d,List.mem_of_getElem? (i:=k) (by rw[List.getElem?_take,if_pos hk];exact hd),by rw[h];decide⟩
 rw[this,Bool.false_and]
section
variable{c:Itr}
end
end
section
def MdsI(sa:AV)(l:List Md):Prop:=∃es:List AV,isSl sa es/\es.length=l.length/\∀(k:Nat) (d:Md),l[k]? =some d->∃ma la,es[k]? =some (.agg [.int .i64 d.parent,.int .i64 d.clo,.int .i64 d.chi,ma,la])/\isSl ma (d.marks.map mkC.enc)/\isSl la (d.loans.map lnC.enc)
theorem MdsI.out{sa:AV}{l:List Md}(q:MdsI sa l):outV (some sa)=some sa:=by
 obtain⟨es,h1,_⟩:=q;exact h1.out
theorem MdsI.len{sa:AV}{l:List Md}(q:MdsI sa l):lenS sa=some l.length:=by
 obtain⟨es,h1,h2,_⟩:=q;rw[h1.len,h2]
theorem MdsI.elem{sa:AV}{l:List Md}(q:MdsI sa l){k:Nat}{d:Md}(hd:l[k]? =some d):∃ma la,isSl ma (d.marks.map mkC.enc)/\isSl la (d.loans.map lnC.enc)/\∀H,indexAddrV Tryz.prog H 22 sa (.int .i64 (k:Int))=some (.vptr [.int .i64 d.parent,.int .i64 d.clo,.int .i64 d.chi,ma,la]):=by
 obtain⟨es,h1,h2,h3⟩:=q;obtain⟨ma,la,h4,h5,h6⟩:=h3 k d hd;have e1:=h5.cells;have e2:=h6.cells;exact⟨ma,la,h5,h6,fun H=>h1.idx (P:=Tryz.prog) (hp:=H) (t:=22) (k:=k) Tryz.underlying22 ty_lay76 h4 rfl⟩
theorem mm_of:∀(es:List AV) (l:List Md),es.length=l.length->(∀(k:Nat) (d:Md),l[k]? =some d->∃ma la,es[k]? =some (.agg [.int .i64 d.parent,.int .i64 d.clo,.int .i64 d.chi,ma,la])/\slV mkC ma=some d.marks/\slV lnC la=some d.loans)->
  ∃q:List MM,es=q.map mmC.enc/\q.all MM.ok=true/\q.map MM.md=l
 | [],[],_,_=>⟨[],rfl,rfl,rfl⟩
 | [],_::_,h,_=>by simp at h
 |_::_,[],h,_=>by simp at h
 | e :: es, d :: l, h, hi => by
  obtain⟨ma,la,h1,h2,h3⟩:=hi 0 d rfl;simp only[List.getElem?_cons_zero,Option.some.injEq]at h1;subst h1;obtain⟨q,e1,e2,e3⟩:=mm_of es l (by simpa using h) fun k x hx=>by
   have:=hi (k+1) x (by simpa using hx);simpa using this
  have hok:(MM.mk d.parent d.clo d.chi ma la ⟨sl_pur h2,sl_pur h3⟩).ok=true:=by unfold MM.ok;rw[h2,h3];rfl
  have hmd:(MM.mk d.parent d.clo d.chi ma la ⟨sl_pur h2,sl_pur h3⟩).md=d:=by unfold MM.md;rw[h2,h3];rfl
  refine⟨⟨d.parent,d.clo,d.chi,ma,la,sl_pur h2,sl_pur h3⟩::q,by rw[e1];rfl,?_,?_⟩
  ·rw[List.all_cons,hok,e2];rfl
  ·rw[List.map_cons,hmd,e3]
theorem short_parts{b:Bk}(h:shortB b=true):b.moulds.length <=7/\∀(k:Nat) (d:Md),b.moulds[k]? =some d->d.marks.length <=6/\d.loans.length <=5:=by
 unfold shortB at h;rw[Bool.and_eq_true,decide_eq_true_eq,List.all_eq_true]at h;obtain⟨h1,h2⟩:=h;have hl:b.moulds.length <=7:=by omega
 refine⟨hl,fun k d hd=>?_⟩;rw[List.take_of_length_le (by omega)]at h1;have:=h1 d (List.mem_of_getElem? hd);unfold shortM at this;simp only[Bool.not_eq_true',Bool.or_eq_false_iff,decide_eq_false_iff_not]at this;omega
theorem short_bk{b:Bk}{sa:AV}(q:MdsI sa b.moulds)(h:shortB b=true):bkV (.agg [.int .i64 b.miss,.int .i64 b.ghost,sa])=some b:=by
 obtain⟨h1,h2⟩:=short_parts h;obtain⟨es,q1,q2,q3⟩:=q;obtain⟨l,e1,e2,e3⟩:=mm_of es b.moulds q2 fun k d hd=>by
  obtain⟨ma,la,g1,g2,g3⟩:=q3 k d hd;have:=h2 k d hd;exact⟨ma,la,g1,slV_mk g2 (by unfold maxL;omega),slV_mk g3 (by unfold maxL;omega)⟩
 have hs:slV mmC sa=some l:=slV_mk (by rw[<-e1];exact q1) (by rw[<-List.length_map (f:=mmC.enc),<-e1,q2];unfold maxL;omega);simp only[bkV,hs,e2,if_true,e3]
section
variable{c:Itr}
theorem C20I(hc:c 20=none)(b:Bk)(sa:AV)(hm:MdsI sa b.moulds)(h:Heap) :
  Cl (dX c) 20 [.agg [.int .i64 b.miss,.int .i64 b.ghost,sa]] h (.ret (.bool (shortB b)) h none):=by
 refine ClR.cl ?_;have os:=hm.out;have hlen:=hm.len;have HM:=J1 hm;have hmin:min b.moulds.length 8 <=8:=Nat.min_le_right _ _;have hmin2:min b.moulds.length 8 <=b.moulds.length:=Nat.min_le_left _ _;clear hm;refine ClR.walk (c:=_) hc Tryz.func20 rfl (by kernel_rfl) rfl (fun e=>by cases e) ?_
 try simp only[entryEnv,Nat.reduceAdd,List.nil_append,List.cons_append,emptyHp]
 repeat' (first|refine goS ?_|(refine go2 ?_ ?_<;>intro hh)|fail)
 refine W.loopH (min b.moulds.length 8) [1] [1] (fun k e lm=>e.get 3=some (.int .i64 ↑k)/\(b.moulds.take k).all shortM=true) ?_ ?_
 ·refine⟨?_,?_⟩<;>first|exact Z2|rfl|assumption|(simp[go_sem, *];done)
 intro k e lm hk0 hce hcl hinv;simp only[keepE,and_true]at hce;have c1:=hce;clear hce;simp only[go_sem, *,Nat.reduceBEq,Nat.reduceEqDiff,reduceIte]at c1;simp only[keepL,and_true]at hcl;have d1:=hcl;clear hcl;simp only[go_sem, *,Nat.reduceBEq,Nat.reduceEqDiff,reduceIte]at d1;obtain⟨h3,hal⟩:=hinv;by_cases hlt:k<min b.moulds.length 8
 ·have hd0:=dT hlt
  have hv_0:=wrap_succ hlt (by unfold maxL;omega);obtain⟨d,hd⟩:=get_some (l:=b.moulds) (k:=k) (by omega);obtain⟨ma,la,v1,v2,hix⟩:=HM.out.elem hd;have om:=v1.out;have ol:=v2.out;have lm:=v1.len;rw[List.length_map]at lm;have ll:=v2.len;rw[List.length_map]at ll;have hnx:=all_at hd hal;have he1:decide ((k:Int)<(b.moulds.length:Int))=true:=by simp only[decide_eq_true_eq];omega
  have he2:decide ((k:Int)<8)=true:=by simp only[decide_eq_true_eq];omega
  have hk8:k<8:=by omega
  have HNX:=J1 hnx;have HD:=J1 hd;have HLT0:=J1 hlt;have HK8:=J1 hk8;have hsm:shortM d=!(decide ((d.marks.length:Int)>6)||decide ((d.loans.length:Int)>5)):=rfl;clear v1 v2 hd hnx hal hk8 hlt;cases h1:decide ((d.marks.length:Int)>6)with
  |true=>
   rw[h1]at hsm;have hno:=short_no HD.out HK8.out hsm;rw[hno];clear hno hsm;repeat' (first|refine goS ?_|(refine go2 ?_ ?_<;>intro hh)|fail)
   all_goals (simp only[rV Tryz.func20,Tryz.results20];first|exact J5|refine J6 ?_)
   all_goals rfl
  | false =>
   cases h2:decide ((d.loans.length:Int)>5)with
   |true=>
    rw[h1,h2]at hsm;have hno:=short_no HD.out HK8.out hsm;rw[hno];clear hno hsm;repeat' (first|refine goS ?_|(refine go2 ?_ ?_<;>intro hh)|fail)
    all_goals (simp only[rV Tryz.func20,Tryz.results20];first|exact J5|refine J6 ?_)
    all_goals rfl
   |false=>
    rw[h1,h2]at hsm;have HS:=J1 hsm;clear hsm;repeat' (first|refine goS ?_|(refine go2 ?_ ?_<;>intro hh)|fail)
    all_goals refine contH_mk J9 J7 J8 ?_
    all_goals refine⟨?_,?_⟩
    all_goals first|exact Z2|skip
    all_goals exact HNX.out.trans HS.out
 ·have hd0:=dF hlt
  obtain rfl:k=min b.moulds.length 8:=by omega
  have hS:shortB b=decide ((b.moulds.length:Int) <=7):=by
   unfold shortB;by_cases h8:b.moulds.length <=8
   ·have e1:b.moulds.take (min b.moulds.length 8)=b.moulds:=List.take_of_length_le (by omega)
    rw[e1]at hal;rw[List.take_of_length_le h8,hal,Bool.true_and]
   ·have e1:min b.moulds.length 8=8:=by omega
    rw[e1]at hal;rw[hal,Bool.true_and]
  rw[hS];clear hal hS;by_cases h8:b.moulds.length <=8
  ·have e1:min b.moulds.length 8=b.moulds.length:=by omega
   have he1:decide ((↑(min b.moulds.length 8):Int)<(b.moulds.length:Int))=false:=by rw[e1];simp
   clear e1;repeat' (first|refine goS ?_|(refine go2 ?_ ?_<;>intro hh)|fail)
   all_goals (simp only[rV Tryz.func20,Tryz.results20];first|exact J5|refine J6 ?_)
   all_goals rfl
  ·have e1:min b.moulds.length 8=8:=by omega
   have he1:decide ((↑(min b.moulds.length 8):Int)<(b.moulds.length:Int))=true:=by simp only[decide_eq_true_eq];omega
   have he2:decide ((↑(min b.moulds.length 8):Int)<8)=false:=by simp only[decide_eq_false_iff_not];omega
   clear e1;repeat' (first|refine goS ?_|(refine go2 ?_ ?_<;>intro hh)|fail)
   all_goals (simp only[rV Tryz.func20,Tryz.results20];first|exact J5|refine J6 ?_)
   all_goals rfl
end
end
end Go.AM
namespace Go.AM
open Go Go.Proofs
variable[Keep]
theorem ClR.gives{X:Ctx}{f:FuncId}{args:List AV}{h:Heap}{v:AV}(c:ClR X f args h (isRet v)):∃h',Cl X f args h (.ret v h' none):=by
 unfold ClR at c;obtain⟨r,⟨n,hn⟩,q⟩:=c;cases r with
 |ret u h' up=>
  cases up with
  |none=>rw[isRet_ret]at q;subst q;exact⟨h',n,hn⟩
  |some p=>exact absurd q (by simp[isRet])
 |pan u h' up=>exact absurd q (by simp[isRet])
 |fail=>exact absurd q (by simp[isRet])
theorem Sh.i64{n:Nat}{xs:List AV}(h:Sh Tryz.prog (n+1) 3 xs):∃i,xs=[.int .i64 i]:=by
 obtain⟨i,h,_⟩:=Sh.int Tryz.underlying3 h;exact⟨i,h⟩
theorem ag3:isAggT Tryz.prog 3=false:=by simp[isAggT,Tryz.underlying3]
theorem ag24:isAggT Tryz.prog 24=true:=by simp[isAggT,Tryz.underlying24]
theorem ag76:isAggT Tryz.prog 76=true:=by simp[isAggT,Tryz.underlying76]
theorem ag100:isAggT Tryz.prog 100=true:=by simp[isAggT,Tryz.underlying100]
theorem ag123:isAggT Tryz.prog 123=true:=by simp[isAggT,Tryz.underlying123]
theorem ag42:isAggT Tryz.prog 42=true:=by simp[isAggT,Tryz.underlying42]
theorem Sh.span{n:Nat}{xs:List AV}(h:Sh Tryz.prog (n+2) 45 xs):∃p q:Int,xs=[.int .i64 p,.int .i64 q]:=by
 obtain⟨x1,y1,rfl,h1,x2,y2,rfl,h2,rfl⟩:=Sh.struct Tryz.underlying45 h;obtain⟨a,rfl⟩:=Sh.i64 h1;obtain⟨b,rfl⟩:=Sh.i64 h2;exact⟨a,b,rfl⟩
theorem Sh.find{n:Nat}{xs:List AV}(h:Sh Tryz.prog (n+2) 42 xs):∃p q:Int,xs=[.int .i64 p,.int .i64 q]:=by
 obtain⟨x1,y1,rfl,h1,x2,y2,rfl,h2,rfl⟩:=Sh.struct Tryz.underlying42 h;obtain⟨a,rfl⟩:=Sh.i64 h1;obtain⟨b,rfl⟩:=Sh.i64 h2;exact⟨a,b,rfl⟩
theorem Sh.mk{n:Nat}{xs:List AV}(h:Sh Tryz.prog (n+3) 123 xs):∃p:Mk,xs=[.int .i64 p.spot,.int .i64 p.lo,.int .i64 p.hi]:=by
 obtain⟨x1,y1,rfl,h1,x2,y2,rfl,h2,rfl⟩:=Sh.struct Tryz.underlying123 h;obtain⟨a,rfl⟩:=Sh.i64 h1;obtain⟨p,q,rfl⟩:=Sh.span h2;exact⟨⟨a,p,q⟩,rfl⟩
theorem Sh.ln{n:Nat}{xs:List AV}(h:Sh Tryz.prog (n+3) 100 xs):∃p:Ln,xs=[.int .i64 p.house,.int .i64 p.slo,.int .i64 p.shi,.int .i64 p.flo,.int .i64 p.fhi]:=by
 obtain⟨x1,y1,rfl,h1,x2,y2,rfl,h2,x3,y3,rfl,h3,rfl⟩:=Sh.struct Tryz.underlying100 h;obtain⟨a,rfl⟩:=Sh.i64 h1;obtain⟨p,q,rfl⟩:=Sh.span h2;obtain⟨u,w,rfl⟩:=Sh.span h3;exact⟨⟨a,p,q,u,w⟩,rfl⟩
theorem Sh.mks{n:Nat}{xs:List AV}(h:Sh Tryz.prog (n+4) 73 xs):∃(a:AV) (l:List Mk),xs=[a]/\isSl a (l.map mkC.enc):=
 Sh.slice mkC Tryz.underlying73 (fun xs h=>by
  obtain⟨p,rfl⟩:=Sh.mk h;exact⟨p,by rw[ag123];rfl⟩) h
theorem Sh.lns{n:Nat}{xs:List AV}(h:Sh Tryz.prog (n+4) 74 xs):∃(a:AV) (l:List Ln),xs=[a]/\isSl a (l.map lnC.enc):=
 Sh.slice lnC Tryz.underlying74 (fun xs h=>by
  obtain⟨p,rfl⟩:=Sh.ln h;exact⟨p,by rw[ag100];rfl⟩) h
theorem Sh.md{n:Nat}{xs:List AV}(h:Sh Tryz.prog (n+5) 76 xs):∃(d:Md) (ma la:AV),xs=[.int .i64 d.parent,.int .i64 d.clo,.int .i64 d.chi,ma,la]/\isSl ma (d.marks.map mkC.enc)/\isSl la (d.loans.map lnC.enc):=by
 obtain⟨x1,y1,rfl,h1,x2,y2,rfl,h2,x3,y3,rfl,h3,x4,y4,rfl,h4,rfl⟩:=Sh.struct Tryz.underlying76 h;obtain⟨a,rfl⟩:=Sh.i64 h1;obtain⟨p,q,rfl⟩:=Sh.span h2;obtain⟨ma,ms,rfl,q1⟩:=Sh.mks h3;obtain⟨la,ls,rfl,q2⟩:=Sh.lns h4;exact⟨⟨a,p,q,ms,ls⟩,ma,la,rfl,q1,q2⟩
theorem mdsI_of:∀(es:List AV),(∀x∈es,∃(d:Md) (ma la:AV),x= .agg [.int .i64 d.parent,.int .i64 d.clo,.int .i64 d.chi,ma,la]/\isSl ma (d.marks.map mkC.enc)/\isSl la (d.loans.map lnC.enc))->
  ∃l:List Md,es.length=l.length/\∀(k:Nat) (d:Md),l[k]? =some d->∃ma la,es[k]? =some (.agg [.int .i64 d.parent,.int .i64 d.clo,.int .i64 d.chi,ma,la])/\isSl ma (d.marks.map mkC.enc)/\isSl la (d.loans.map lnC.enc)
 | [],_=>⟨[],rfl,fun k d h=>by simp at h⟩
 |x::es,h=>by
  obtain⟨d0,ma,la,rfl,q1,q2⟩:=h x (by simp);obtain⟨l,g1,g2⟩:=mdsI_of es fun y hy=>h y (by simp[hy]);refine⟨d0::l,by simp[g1],fun k d hk=>?_⟩;cases k with
  |zero=>simp at hk;subst hk;exact⟨ma,la,rfl,q1,q2⟩
  |succ k=>simp at hk;simpa using g2 k d hk
theorem Sh.mds{n:Nat}{xs:List AV}(h:Sh Tryz.prog (n+6) 22 xs):∃(a:AV) (l:List Md),xs=[a]/\MdsI a l:=by
 unfold Sh at h;rw[Tryz.underlying22]at h;obtain⟨a,es,rfl,h1,_,h3⟩:=h;obtain⟨l,g1,g2⟩:=mdsI_of es fun x hx=>by
  obtain⟨ys,k1,k2⟩:=h3 x hx;obtain⟨d,ma,la,rfl,q1,q2⟩:=Sh.md k2;exact⟨d,ma,la,by rw[k1,ag76];rfl,q1,q2⟩
 exact⟨a,l,rfl,es,h1,g1,g2⟩
theorem Sh.book{n:Nat}{xs:List AV}(h:Sh Tryz.prog (n+7) 24 xs):∃(sa:AV) (b:Bk),xs=[.int .i64 b.miss,.int .i64 b.ghost,sa]/\MdsI sa b.moulds:=by
 obtain⟨x1,y1,rfl,h1,x2,y2,rfl,h2,x3,y3,rfl,h3,rfl⟩:=Sh.struct Tryz.underlying24 h;obtain⟨a,rfl⟩:=Sh.i64 h1;obtain⟨g,rfl⟩:=Sh.i64 h2;obtain⟨sa,l,rfl,q⟩:=Sh.mds h3;exact⟨sa,⟨a,g,l⟩,rfl,q⟩
attribute [local irreducible] W WO WO1 WD WQ WT thenQ blockQ endR isRet retK Cl ClR
attribute [local irreducible] natsE
theorem rw_idx{H:Heap}{id k:Nat}{l:List AV}{x:AV}(hg:H.get id=some (.rw 1 l))(hx:l[k]? =some x):indexAddrV Tryz.prog H 36 (.row id 0 l.length) (.int .i64 ↑k)=some (.eptr id 1 k 0):=
 row_idx (t:=36) (e:=3) Tryz.underlying36 ty_lay3 hg (List.getElem?_eq_some_iff.1 hx).1
theorem bltN_at{b:Nat}{h:Heap}{v:AV}{l:List AV}(q:BltN b h v 1 l){k:Nat}{x:AV}(hx:l[k]? =some x):∃id,v= .row id 0 l.length/\h.get id=some (.rw 1 l)/\b <=id/\id<h.next:=by
 refine q.row ?_;rintro rfl;simp at hx
theorem nats_at{l:List Nat}{k j:Nat}(h:l[k]? =some j):(natsE l)[k]? =some (.int .i64 (j:Int)):=by
 unfold natsE;rw[List.getElem?_map,h];rfl
theorem BltN.base{b b':Nat}{h:Heap}{v:AV}{sz:Nat}{l:List AV}(q:BltN b h v sz l)(hb:b' <=b):BltN b' h v sz l:=by
 rcases q with q|⟨id,h1,h2,h3,h4⟩
 ·exact .inl q
 ·exact .inr ⟨id,h1,h2,Nat.le_trans hb h3,h4⟩
section
variable{c:Itr}
theorem C144(hc:c 144=none)(mi gh:Int)(sa:AV)(l:List Md)(hm:MdsV sa l)(n:Nat)(wf:WfP l n)(hl:n <=l.length)(m:Int)(h1:-1 <=m)(h3:m<n)(h:Heap) :
  ClR (dX c) 144 [.agg [.int .i64 mi,.int .i64 gh,sa],.int .i64 m] h (rowR (natsE (chn l m)) h):=by
 have os:=hm.out;have hmx:=hm.max;have hch:=chn_at wf hl h1 h3;have HM:=J1 hm;have HCH:=J1 hch;have h0:natsE ((chn l m).take 0)=[]:=by unfold natsE;rfl
 have H0:=J1 h0;have hc0:curM l m 0=m:=by unfold curM;rfl
 have HC0:=J1 hc0;have hln:=hch.2.2;have HLN:=J1 hln;have hkl:∀k,k<(chn l m).length->(curM l m k).toNat<l.length:=fun k hk=>by
  have:=hch.1 k hk;omega
 have HKL:=J1 hkl;clear hm hch h0 hc0 hln hkl;refine ClR.walk (c:=_) hc Tryz.func144 rfl (by kernel_rfl) rfl rowR_fail ?_
 try simp only[entryEnv,Nat.reduceAdd,List.nil_append,List.cons_append,emptyHp]
 repeat' (first|refine goS ?_|(refine go2 ?_ ?_<;>intro hh)|fail)
 refine W.loopV ((chn l m).length) [2] [2] (fun k e lm hp=>∃u,e.get 6=some (.int .i64 (curM l m k))/\e.get 5=some (u)/\BltN h.next hp u 1 (natsE ((chn l m).take k))/\HExt h hp) ?_ ?_
 ·skip
  refine⟨.nilslice,?_,?_,?_,HExt.refl _⟩
  ·rw[HC0.out];simp[go_sem, *]
  ·simp[go_sem, *]
  ·rw[H0.out];exact BltN.nil
 intro k e lm hp hk0 hce hcl hinv;simp only[keepE,and_true]at hce;have c2:=hce;clear hce;simp only[go_sem, *,Nat.reduceBEq,Nat.reduceEqDiff,reduceIte]at c2;simp only[keepL,and_true]at hcl;have d2:=hcl;clear hcl;simp only[go_sem, *,Nat.reduceBEq,Nat.reduceEqDiff,reduceIte]at d2;obtain⟨u,h6,h5,hB,hX⟩:=hinv;by_cases hlt:k<(chn l m).length
 ·have hd0:=dT hlt
  have hv_0:=wrap_succ hlt (by have:=HLN.out;unfold maxL at *;omega);obtain⟨q1,q2,q3,q4⟩:=HCH.out.1 k hlt;have hkl:=HKL.out k hlt;obtain⟨d,hdd⟩:=get_some (l:=l) (k:=(curM l m k).toNat) hkl;obtain⟨ma,la,v1,v2,hix⟩:=HM.out.elem _ _ hdd;have hcn:((curM l m k).toNat:Int)=curM l m k:=by omega
  rw[hcn]at hix;have hge:decide (curM l m k >=0)=true:=by simpa using q2
  have om:=sl_out v1;have ol:=sl_out v2;have hup:curM l m (k+1)=d.parent:=by
   rw[curM_succ];unfold upM;rw[hdd]
  have hbo1:=hB.blt.out;have hll:(natsE ((chn l m).take k)).length+1 <=most:=by
   rw[natsE_len,List.length_take];have:=HLN.out;unfold most;unfold maxL at hmx;omega
  have hnx:natsE ((chn l m).take (k+1))=natsE ((chn l m).take k)++[.int .i64 (curM l m k)]:=by
   rw[take_next q1];unfold natsE;rw[List.map_append];simp only[List.map_cons,List.map_nil,hcn]
  have HNX:=J1 hnx;have HUP:=J1 hup;have HLT0:=J1 hlt;clear v1 v2 hdd q1 q2 q3 q4 hup hnx hlt hcn hkl;generalize hcu:curM l m k=cu at *;repeat' (first|(apply WO1.appendN (t:=36) (u:=36) (e:=3) (e':=3) (sz:=1) (tl:=[]) (hb:=hB) (hx:=HExt.pair hX);exact Z1;exact rfl;exact Z2;exact Z2;exact Z2;(focus (exact ty_row36));exact Z1;(focus (intro v hv;simp at hv;subst hv;first|rfl|exact hsc));(focus (simp only[List.length_map,List.length_cons,List.length_nil];exact hll));(focus (simp));(intro v' h' hB' ho' hX';have hcc':=hB'.blt.cells;have htt':=hB'.blt.tup;simp only[AV.cells]at hcc';simp only[isTuple]at htt';simp only[pM,pN]))|refine go1 ?_|(refine go2 ?_ ?_<;>intro hh)|fail)
  all_goals refine contV_mk J9 J7 J8 ?_
  all_goals refine⟨v',?_,?_,?_,hX'⟩
  all_goals first|exact Z2|skip
  ·rw[HUP.out];simp only[go_sem, *,Nat.reduceLT,Int.reduceEq,Int.reduceBEq,Int.reduceLE,Int.reduceLT,Nat.reduceAdd,Nat.reduceBEq,Nat.reduceEqDiff,reduceIte,Nat.reduceLeDiff,Nat.reduceMul,Nat.reduceSub,reduceCtorEq]
  ·rw[HNX.out];exact hB'
 ·have hd0:=dF hlt
  obtain rfl:k=(chn l m).length:=by omega
  have hlt0:=HCH.out.2.1;have hge:decide (curM l m (chn l m).length >=0)=false:=by simp only[decide_eq_false_iff_not];omega
  have hbo1:=hB.blt.out;rw[List.take_length]at hB;have HX:=J1 hX;have HB:=J1 hB;clear hB hX hlt0;generalize hcu:curM l m (chn l m).length=cu at *;repeat' (first|refine goS ?_|(refine go2 ?_ ?_<;>intro hh)|fail)
  all_goals (simp only[rV Tryz.func144,Tryz.results144];first|exact J5|refine J6 ?_)
  exact⟨_,_,HX.out,rfl,HB.out⟩
def spotL(q:List (Nat×Mk)):List AV:=intsE (q.map fun jx=>jx.2.spot)
theorem spotL_len(q:List (Nat×Mk)):(spotL q).length=q.length:=by unfold spotL;rw[intsE_len,List.length_map]
theorem spotL_app(q:List (Nat×Mk))(j:Nat)(x:Mk):spotL (q++[(j,x)])=spotL q++[.int .i64 x.spot]:=by
 unfold spotL;rw[List.map_append,List.map_cons,List.map_nil,intsE_app]
attribute [local irreducible] spotL lineP lineQ lineM
theorem C109(hc:c 109=none)(hc2:c 144=none)(mi gh:Int)(sa:AV)(l:List Md)(hm:MdsV sa l)(n:Nat)(wf:WfP l n)(hl:n <=l.length)(m:Int)(h1:-1 <=m)(h3:m<n)(hb:(lineM l m).length <=100000)(h:Heap) :
  ClR (dX c) 109 [.agg [.int .i64 mi,.int .i64 gh,sa],.int .i64 m] h (rowR (spotL (lineM l m)) h):=by
 have os:=hm.out;have hmx:=hm.max;have hch:=chn_at wf hl h1 h3;have HM:=J1 hm;have HCH:=J1 hch;have HBD:=J1 hb;have HLN:=J1 hch.2.2;have k144:=C144 hc2 mi gh sa l hm n wf hl m h1 h3 h;unfold ClR at k144;obtain⟨r,k144,⟨bn,bm⟩,lv,hx1,rfl,hb1⟩:=k144;have lc:=hb1.blt.cells;have lt:=hb1.blt.tup;have lo:=hb1.blt.out;have ll:=hb1.blt.len;rw[natsE_len]at ll;simp only[AV.cells]at lc;simp only[isTuple]at lt;have HB1:=J1 hb1;have HX1:=J1 hx1;have h0:spotL (lineP l m 0)=[]:=by unfold lineP spotL;rfl
 have H0:=J1 h0;have hkl:∀k,k<(chn l m).length->(curM l m k).toNat<l.length:=fun k hk=>by
  have:=hch.1 k hk;omega
 have HKL:=J1 hkl;clear hm hch h0 hb hkl hb1 hx1;refine ClR.walk (c:=_) hc Tryz.func109 rfl (by kernel_rfl) rfl rowR_fail ?_
 try simp only[entryEnv,Nat.reduceAdd,List.nil_append,List.cons_append,emptyHp]
 repeat' (first|refine goS ?_|refine uJ k144 ?_|(refine go2 ?_ ?_<;>intro hh)|fail)
 refine W.loopV ((chn l m).length) [2,6] [2] (fun k e lm hp=>∃u,e.get 7=some (.int .i64 ↑k)/\e.get 5=some (u)/\BltN bn hp u 1 (spotL (lineP l m k))/\HExt ⟨bn,bm⟩ hp) ?_ ?_
 ·skip
  refine⟨.nilslice,?_,?_,?_,HExt.refl _⟩
  ·simp[go_sem, *]
  ·simp[go_sem, *]
  ·rw[H0.out];exact BltN.nil
 intro k e lm hp hk0 hce hcl hinv;simp only[keepE,and_true]at hce;obtain⟨c2,c6⟩:=hce;simp only[go_sem, *,Nat.reduceBEq,Nat.reduceEqDiff,reduceIte]at c2 c6;simp only[keepL,and_true]at hcl;have d2:=hcl;clear hcl;simp only[go_sem, *,Nat.reduceBEq,Nat.reduceEqDiff,reduceIte]at d2;obtain⟨u,h7,h5,hB,hX⟩:=hinv;by_cases hlt:k<(chn l m).length
 ·have hd0:=dT hlt
  have hv_0:=wrap_succ hlt (by have:=HLN.out;unfold maxL at *;omega);obtain⟨q1,q2,q3,q4⟩:=HCH.out.1 k hlt;have hkl:=HKL.out k hlt;obtain⟨d,hdd⟩:=get_some (l:=l) (k:=(curM l m k).toNat) hkl;obtain⟨ma,la,v1,v2,hix⟩:=HM.out.elem _ _ hdd;have hmk:marksA l (curM l m k).toNat=d.marks:=by unfold marksA;rw[hdd]
  have hpre:∀i,lineQ l m k (curM l m k).toNat d.marks i <+:lineM l m:=fun i=>by rw[<-hmk];exact lineQ_pre q1
  have hln:lineP l m (k+1)=lineQ l m k (curM l m k).toNat d.marks d.marks.length:=by
   rw[lineP_next q1,hmk];unfold lineQ;rw[List.take_length]
  have hl0:lineQ l m k (curM l m k).toNat d.marks 0=lineP l m k:=by unfold lineQ;simp
  rw[<-hl0]at hB;obtain⟨id,e1,e2,e3,e4⟩:=bltN_at HB1.out (nats_at q1);simp only at e4;have hat:=nats_at q1;have hrl:(natsE (chn l m)).length=(chn l m).length:=natsE_len _;have hri:=fun(H:Heap) (hg:H.get id=some (.rw 1 (natsE (chn l m))))=>rw_idx hg hat;rw[<-e1]at hri;have HRI:=J1 hri;have E2:=J1 e2;have om:=sl_out v1;have ol:=sl_out v2;have lm0:=sl_len v1;have mm:=sl_max v1;have HMI:=J1 v1;have HPRE:=J1 hpre;have HLN1:=J1 hln;have HLT0:=J1 hlt;clear v1 v2 hdd q1 q2 q3 q4 hmk hpre hln hl0 hlt e1 e2 hri hkl;generalize hcu:(curM l m k).toNat=cu at *;clear hcu;have HB0:=J1 hB;have HX0:=J1 hX;have hlb:=HBD.out;clear hB hX;repeat' (first|refine goS ?_|(refine go2 ?_ ?_<;>intro hh)|fail)
  refine W.loopV (d.marks.length) [2,6,7] [2] (fun j e1 lm1 hp1=>∃u1,e1.get 8=some (.int .i64 ↑j)/\e1.get 5=some (u1)/\BltN bn hp1 u1 1 (spotL (lineQ l m k cu d.marks j))/\HExt ⟨bn,bm⟩ hp1) ?_ ?_
  ·skip
   refine⟨u,?_,?_,HB0.out,HX0.out⟩;all_goals first|exact Z2|simp[go_sem, *]
  intro j e1 lm1 hp1 hk1 hce hcl hinv;simp only[keepE,and_true]at hce;obtain⟨c2,c6,c7⟩:=hce;simp only[go_sem, *,Nat.reduceBEq,Nat.reduceEqDiff,reduceIte]at c2 c6 c7;simp only[keepL,and_true]at hcl;have d2:=hcl;clear hcl;simp only[go_sem, *,Nat.reduceBEq,Nat.reduceEqDiff,reduceIte]at d2;obtain⟨u1,h8,h5,hB,hX⟩:=hinv;by_cases hjt:j<d.marks.length
  ·have hd1:=dT hjt
   have hv_1:=wrap_succ hjt mm;obtain⟨x,hx⟩:=get_some hjt;have hix2:=fun H=>mks_idx HMI.out hx H;have hnx:=lineQ_next (l:=l) (m:=m) (k:=k) (j:=cu) hx;have hle:=(HPRE.out j).length_le;have hbo1:=hB.blt.out;have hll:(spotL (lineQ l m k cu d.marks j)).length+1 <=most:=by rw[spotL_len];unfold most;omega
   obtain⟨pn,pm⟩:=hp1;have g1:pm.get id=_:=(hX.2 id e4).trans E2.out;have r1:=HRI.out ⟨pn,pm⟩ g1;have HNX:=J1 hnx;have HLT1:=J1 hjt;clear hx hnx hle hjt;repeat' (first|(apply W.drawQ (id:=7) (l1:=[0,1,2,3,4,5,6,7,8,9,10,11]) (l2:=[]);kernel_rfl;kernel_rfl;kernel_rfl;exact Z4)|(apply W.drawQ (id:=9) (l1:=[0,1,2,3,4,5,6,7,8,9,10,11,12,13,14]) (l2:=[15,16]);kernel_rfl;kernel_rfl;kernel_rfl;exact Z4)|(apply WO1.appendN (t:=36) (u:=36) (e:=3) (e':=3) (sz:=1) (tl:=[]) (hb:=hB) (hx:=HExt.pair hX);exact Z1;exact rfl;exact Z2;exact Z2;exact Z2;(focus (exact ty_row36));exact Z1;(focus (intro v hv;simp at hv;subst hv;first|rfl|exact hsc));(focus (simp only[List.length_map,List.length_cons,List.length_nil];exact hll));(focus (simp));(intro v' h' hB' ho' hX';have hcc':=hB'.blt.cells;have htt':=hB'.blt.tup;simp only[AV.cells]at hcc';simp only[isTuple]at htt';simp only[pM,pN]))|refine go1 ?_|(refine go2 ?_ ?_<;>intro hh)|fail)
   all_goals refine contV_mk (by first|assumption|exact HLT1.out|exact HLT0.out) J7 J8 ?_
   all_goals refine⟨v',?_,?_,?_,hX'⟩
   all_goals first|exact Z2|skip
   ·rw[HNX.out,spotL_app];exact hB'
  ·have hd1:=dF hjt
   obtain rfl:j=d.marks.length:=by omega
   have hbo1:=hB.blt.out;rw[<-HLN1.out]at hB;obtain⟨pn,pm⟩:=hp1;have g1:pm.get id=_:=(hX.2 id e4).trans E2.out;have r1:=HRI.out ⟨pn,pm⟩ g1;have HB2:=J1 hB;have HX2:=J1 hX;clear hB hX;repeat' (first|(apply W.drawQ (id:=7) (l1:=[0,1,2,3,4,5,6,7,8,9,10,11]) (l2:=[]);kernel_rfl;kernel_rfl;kernel_rfl;exact Z4)|(apply W.drawQ (id:=9) (l1:=[0,1,2,3,4,5,6,7,8,9,10,11,12,13,14]) (l2:=[15,16]);kernel_rfl;kernel_rfl;kernel_rfl;exact Z4)|refine go1 ?_|(refine go2 ?_ ?_<;>intro hh)|fail)
   all_goals refine contV_mk J9 J7 J8 ?_
   all_goals refine⟨u1,?_,?_,HB2.out,HX2.out⟩
   all_goals first|exact Z2|skip
 ·have hd0:=dF hlt
  obtain rfl:k=(chn l m).length:=by omega
  rw[lineP_all]at hB;have hbo1:=hB.blt.out;have HB2:=J1 hB;have HX2:=J1 hX;clear hB hX;repeat' (first|refine goS ?_|(refine go2 ?_ ?_<;>intro hh)|fail)
  all_goals (simp only[rV Tryz.func109,Tryz.results109];first|exact J5|refine J6 ?_)
  exact⟨_,_,HX1.out.trans HX2.out,rfl,HB2.out.base HX1.out.1⟩
end
end Go.AM
namespace Go.AM
open Go Go.Proofs
variable[Keep]
attribute [local irreducible] W WO WO1 WD WQ WT thenQ blockQ endR isRet retK Cl ClR
open Go.Mo7 (befL befH insR shiAt sumI sumI_app)
theorem befL_at{ls:List Ln}{k:Nat}{x:Ln}(h:ls[k]? =some x):befL (lns7 ls) (k+1)=befL (lns7 ls) k+x.slo:=by
 rw[<-low_sum,<-low_sum,low_next h,sumI_app];simp[sumI]
theorem befH_at{ls:List Ln}{k:Nat}{x:Ln}(h:ls[k]? =some x):befH (lns7 ls) (k+1)=befH (lns7 ls) k+x.shi:=by
 rw[<-high_sum,<-high_sum,high_next h,sumI_app];simp[sumI]
theorem befL_zero(ls:List Ln):befL (lns7 ls) 0=0:=by rw[<-low_sum];simp[lowE,sumI]
theorem befH_zero(ls:List Ln):befH (lns7 ls) 0=0:=by rw[<-high_sum];simp[highE,sumI]
theorem dayA_zero(ls:List Ln):dayA ls 0=0:=by unfold dayA;rfl
attribute [local irreducible] befL befH dayA insR
section
variable{c:Itr}
theorem C95(hc:c 95=none)(p clo chi:Int)(ma la:AV)(om:outV (some ma)=some ma)(ls:List Ln)(v2:slV lnC la=some ls)(n:Nat)(hn:n<ls.length)(h:Heap) :
  Cl (dX c) 95 [.agg [.int .i64 p,.int .i64 clo,.int .i64 chi,ma,la],.int .i64 (n:Int)] h (.ret (.int .i64 (dayA ls (n+1))) h none):=by
 refine ClR.cl ?_;have ol:=sl_out v2;have ll:=sl_len v2;have ml:=sl_max v2;have HV:=J1 v2;have HN:=J1 hn;have HD0:=J1 (dayA_zero ls);clear v2;refine ClR.walk (c:=_) hc Tryz.func95 rfl (by kernel_rfl) rfl (fun e=>by cases e) ?_
 try simp only[entryEnv,Nat.reduceAdd,List.nil_append,List.cons_append,emptyHp]
 repeat' (first|refine goS ?_|(refine go2 ?_ ?_<;>intro hh)|fail)
 refine W.loopH (n+1) [1,2] [2] (fun k e lm=>e.get 6=some (.int .i64 ↑k)/\e.get 5=some (.int .i64 (dayA ls k))) ?_ ?_
 ·skip
  refine⟨?_,?_⟩
  ·simp[go_sem, *]
  ·rw[HD0.out];simp[go_sem, *]
 intro k e lm hk0 hce hcl hinv;simp only[keepE,and_true]at hce;obtain⟨c1,c2⟩:=hce;simp only[go_sem, *,Nat.reduceBEq,Nat.reduceEqDiff,reduceIte]at c1 c2;simp only[keepL,and_true]at hcl;have d2:=hcl;clear hcl;simp only[go_sem, *,Nat.reduceBEq,Nat.reduceEqDiff,reduceIte]at d2;obtain⟨h6,h5⟩:=hinv;by_cases hlt:k<n+1
 ·have hd0:=dT hlt
  have hv_0:=wrap_succ hlt (by have:=HN.out;omega);obtain⟨x,hx⟩:=get_some (l:=ls) (k:=k) (by have:=HN.out;omega);have hix:=fun H=>lns_idx HV.out hx H;have hdn:=dayA_next hx;have hle:decide ((k:Int) <=(n:Int))=true:=by simp only[decide_eq_true_eq];omega
  have HDN:=J1 hdn;have HLT0:=J1 hlt;clear hx hdn hlt;repeat' (first|refine goS ?_|(refine go2 ?_ ?_<;>intro hh)|fail)
  all_goals refine contH_mk J9 J7 J8 ?_
  all_goals refine⟨?_,?_⟩
  all_goals first|exact Z2|skip
  all_goals (rw[HDN.out];simp only[go_sem, *,Nat.reduceLT,Int.reduceEq,Int.reduceBEq,Int.reduceLE,Int.reduceLT,Nat.reduceAdd,Nat.reduceBEq,Nat.reduceEqDiff,reduceIte,Nat.reduceLeDiff,Nat.reduceMul,Nat.reduceSub,reduceCtorEq])
 ·have hd0:=dF hlt
  obtain rfl:k=n+1:=by omega
  have hle:decide (((n+1:Nat):Int) <=(n:Int))=false:=by simp only[decide_eq_false_iff_not];omega
  repeat' (first|refine goS ?_|(refine go2 ?_ ?_<;>intro hh)|fail)
  all_goals (simp only[rV Tryz.func95,Tryz.results95];first|exact J5|refine J6 ?_)
  all_goals rfl
theorem C85(hc:c 85=none)(p clo chi:Int)(ma la:AV)(om:outV (some ma)=some ma)(ls:List Ln)(v2:slV lnC la=some ls)(ok:lnsOk ls)(h3:ls.length <=3)(n:Nat)(hn:n<ls.length)(s:Int)(h:Heap) :
  Cl (dX c) 85 [.agg [.int .i64 p,.int .i64 clo,.int .i64 chi,ma,la],.int .i64 (n:Int),.int .i64 s] h (.ret (.bool (insR (lns7 ls) n s)) h none):=by
 refine ClR.cl ?_;obtain⟨x,hx⟩:=get_some hn;have hix0:=fun H=>lns_idx v2 hx H;have hins:insR (lns7 ls) n s=(decide (x.shi>0)&&decide (s>befL (lns7 ls) n)&&decide (s <=x.shi+befH (lns7 ls) n)):=by
  unfold insR;rw[shi_at hx,Int.add_comm]
 have hxb:=badL_no (ok x (List.mem_of_getElem? hx));have hx0:0 <=x.shi/\x.shi <=12:=by omega
 have ol:=sl_out v2;have ll:=sl_len v2;have ml:=sl_max v2;have HV:=J1 v2;have HN:=J1 hn;have HI:=J1 hins;have HL0:=J1 (befL_zero ls);have HH0:=J1 (befH_zero ls);have HBD:=J1 (fun k=>befH_bd ok h3 k);have HXB:=J1 hx0;have HOK:=J1 ok;clear v2 hx hins hxb hx0 ok;refine ClR.walk (c:=_) hc Tryz.func85 rfl (by kernel_rfl) rfl (fun e=>by cases e) ?_
 try simp only[entryEnv,Nat.reduceAdd,List.nil_append,List.cons_append,emptyHp]
 repeat' (first|(apply W.drawQ (id:=1) (l1:=[0,1,2,3,4,5,6,7,8]) (l2:=[]);kernel_rfl;kernel_rfl;kernel_rfl;exact Z4)|(apply W.drawQ (id:=5) (l1:=[0,1,2,3,4,5,6,7,8,9,10,11,12,13,14,15,16,17,18,19]) (l2:=[]);kernel_rfl;kernel_rfl;kernel_rfl;exact Z4)|refine go1 ?_|(refine go2 ?_ ?_<;>intro hh)|fail)
 refine W.loopH (n) [1,2,3] [3] (fun k e lm=>e.get 9=some (.int .i64 ↑k)/\e.get 7=some (.int .i64 (befL (lns7 ls) k))/\e.get 8=some (.int .i64 (x.shi+befH (lns7 ls) k))) ?_ ?_
 ·skip
  refine⟨?_,?_,?_⟩
  ·simp[go_sem, *]
  ·rw[HL0.out];simp[go_sem, *]
  ·rw[HH0.out];simp[go_sem, *]
 intro k e lm hk0 hce hcl hinv;simp only[keepE,and_true]at hce;obtain⟨c1,c2,c3⟩:=hce;simp only[go_sem, *,Nat.reduceBEq,Nat.reduceEqDiff,reduceIte]at c1 c2 c3;simp only[keepL,and_true]at hcl;have d3:=hcl;clear hcl;simp only[go_sem, *,Nat.reduceBEq,Nat.reduceEqDiff,reduceIte]at d3;obtain⟨h9,h7,h8⟩:=hinv;by_cases hlt:k<n
 ·have hd0:=dT hlt
  have hv_0:=wrap_succ hlt (by have:=HN.out;omega);obtain⟨y,hy⟩:=get_some (l:=ls) (k:=k) (by have:=HN.out;omega);have hix:=fun H=>lns_idx HV.out hy H;have hl:=befL_at hy;have hh:=befH_at hy;have b1:=HBD.out k;have b2:=HBD.out (k+1);have b3:=HXB.out;have w1:IntKind.i64.wrap (befL (lns7 ls) k+y.slo)=befL (lns7 ls) (k+1):=by rw[hl];exact wrap_small (by omega) (by omega)
  have w2:IntKind.i64.wrap (x.shi+befH (lns7 ls) k+y.shi)=x.shi+befH (lns7 ls) (k+1):=by
   rw[hh,<-Int.add_assoc];exact wrap_small (by omega) (by omega)
  have HLT0:=J1 hlt;clear hy hl hh b1 b2 b3 hlt;repeat' (first|(apply W.drawQ (id:=1) (l1:=[0,1,2,3,4,5,6,7,8]) (l2:=[]);kernel_rfl;kernel_rfl;kernel_rfl;exact Z4)|(apply W.drawQ (id:=5) (l1:=[0,1,2,3,4,5,6,7,8,9,10,11,12,13,14,15,16,17,18,19]) (l2:=[]);kernel_rfl;kernel_rfl;kernel_rfl;exact Z4)|refine go1 ?_|(refine go2 ?_ ?_<;>intro hh)|fail)
  all_goals refine contH_mk J9 J7 J8 ?_
  all_goals refine⟨?_,?_,?_⟩
  all_goals first|exact Z2|skip
 ·have hd0:=dF hlt
  obtain rfl:k=n:=by omega
  rw[HI.out];cases a1:decide (x.shi>0)with
  |false=>
   rw[Bool.false_and,Bool.false_and];repeat' (first|refine gJ ?_|(apply W.drawQ (id:=1) (l1:=[0,1,2,3,4,5,6,7,8]) (l2:=[]);kernel_rfl;kernel_rfl;kernel_rfl;exact Z4)|(apply W.drawQ (id:=5) (l1:=[0,1,2,3,4,5,6,7,8,9,10,11,12,13,14,15,16,17,18,19]) (l2:=[]);kernel_rfl;kernel_rfl;kernel_rfl;exact Z4)|refine go1 ?_|(refine go2 ?_ ?_<;>intro hh)|fail)
   all_goals (simp only[rV Tryz.func85,Tryz.results85];first|exact J5|refine J6 ?_)
   all_goals rfl
  | true =>
   cases a2:decide (s>befL (lns7 ls) k)with
   |false=>
    rw[Bool.and_false,Bool.false_and];repeat' (first|refine gJ ?_|(apply W.drawQ (id:=1) (l1:=[0,1,2,3,4,5,6,7,8]) (l2:=[]);kernel_rfl;kernel_rfl;kernel_rfl;exact Z4)|(apply W.drawQ (id:=5) (l1:=[0,1,2,3,4,5,6,7,8,9,10,11,12,13,14,15,16,17,18,19]) (l2:=[]);kernel_rfl;kernel_rfl;kernel_rfl;exact Z4)|refine go1 ?_|(refine go2 ?_ ?_<;>intro hh)|fail)
    all_goals (simp only[rV Tryz.func85,Tryz.results85];first|exact J5|refine J6 ?_)
    all_goals rfl
   |true=>
    rw[Bool.true_and,Bool.true_and];repeat' (first|refine gJ ?_|(apply W.drawQ (id:=1) (l1:=[0,1,2,3,4,5,6,7,8]) (l2:=[]);kernel_rfl;kernel_rfl;kernel_rfl;exact Z4)|(apply W.drawQ (id:=5) (l1:=[0,1,2,3,4,5,6,7,8,9,10,11,12,13,14,15,16,17,18,19]) (l2:=[]);kernel_rfl;kernel_rfl;kernel_rfl;exact Z4)|refine go1 ?_|(refine go2 ?_ ?_<;>intro hh)|fail)
    all_goals (simp only[rV Tryz.func85,Tryz.results85];first|exact J5|refine J6 ?_)
    all_goals rfl
end
theorem with_all:((List.range 256).all fun s=>(List.range 8).all fun k=>Nat.beq (bif s.testBit k then s else s+2 ^ k) (s ||| 2 ^ k))=true:=by kernel_rfl
theorem with_is{s k:Nat}(hs:s<256)(hk:k<8):(if s.testBit k=true then s else s+2 ^ k)=s ||| 2 ^ k:=by
 have h1:=List.all_eq_true.1 with_all s (List.mem_range.2 hs);have h2:=Nat.eq_of_beq_eq_true (List.all_eq_true.1 h1 k (List.mem_range.2 hk));rw[<-h2];cases s.testBit k<;>rfl
theorem lis_more{s:Nat}(hs:s<64):∀n,lisN s (6+n)=lisN s 6
 |0=>rfl
 | n + 1 => by
  rw[<-lis_more hs n];show lisN s (6+n+1)=_;refine lisN_no ?_;exact Nat.testBit_lt_two_pow (Nat.lt_of_lt_of_le hs (by
   have:(2:Nat) ^ 6 <=2 ^ (6+n):=Nat.pow_le_pow_right (by omega) (by omega);omega))
theorem lis63{s:Nat}(hs:s<64):lisN s 63=lisN s 6:=lis_more hs 57
attribute [local irreducible] lisN natsE
section
variable{c:Itr}
theorem C86(hc:c 86=none)(h81:(dX c).intr 81=some (pureFn sp81))(h133:(dX c).intr 133=some (pureFn sp133))(s k:Nat)(hs:s<256)(hk:k<8)(h:Heap):Cl (dX c) 86 [.int .i64 (s:Int),.int .i64 (k:Int)] h (.ret (.int .i64 ((s ||| 2 ^ k:Nat):Int)) h none):=by
 refine ClR.cl ?_;have k81:=fun h=>K81 (X:=dX c) h81 k (by omega) h;have k133:=fun h=>K133 (X:=dX c) h133 s k (by omega) (by omega) h;have hw:=with_is hs hk;have hp:2 ^ k <=128:=by
  have:(2:Nat) ^ k <=2 ^ 7:=Nat.pow_le_pow_right (by omega) (by omega);have e:(2:Nat) ^ 7=128:=rfl;omega
 have w1:IntKind.i64.wrap ((s:Int)+((2 ^ k:Nat):Int))=((s+2 ^ k:Nat):Int):=by
  generalize (2 ^ k:Nat)=z at *;rw[wrap_small (by omega) (by omega)];omega
 cases hb:s.testBit k with
 |true=>
  rw[hb,if_pos rfl]at hw;rw[hb]at k133;rw[<-hw];clear hw hp w1 hb;refine ClR.walk (c:=_) hc Tryz.func86 rfl (by kernel_rfl) rfl (fun e=>by cases e) ?_
  try simp only[entryEnv,Nat.reduceAdd,List.nil_append,List.cons_append,emptyHp]
  repeat' (first|refine goS ?_|refine uJ (k133 _) ?_|(refine go2 ?_ ?_<;>intro hh)|fail)
  all_goals (simp only[rV Tryz.func86,Tryz.results86];first|exact J5|refine J6 ?_)
  all_goals rfl
 |false=>
  rw[hb,if_neg (by decide)]at hw;rw[hb]at k133;rw[<-hw];clear hw hp hb;generalize (2 ^ k:Nat)=z at *;refine ClR.walk (c:=_) hc Tryz.func86 rfl (by kernel_rfl) rfl (fun e=>by cases e) ?_
  try simp only[entryEnv,Nat.reduceAdd,List.nil_append,List.cons_append,emptyHp]
  repeat' (first|refine goS ?_|refine uJ (k133 _) ?_|refine uJ (k81 _) ?_|(refine go2 ?_ ?_<;>intro hh)|fail)
  all_goals (simp only[rV Tryz.func86,Tryz.results86];first|exact J5|refine J6 ?_)
  all_goals rfl
theorem C87(hc:c 87=none)(h133:(dX c).intr 133=some (pureFn sp133))(s:Nat)(hs:s<256)(h:Heap):ClR (dX c) 87 [.int .i64 (s:Int)] h (rowR (natsE (lisN s 6)) h):=by
 have hk:=fun(k:Nat) (hk:k<6) (h:Heap)=>K133 (X:=dX c) h133 s k (by omega) (by omega) h;have HK:=J1 hk;have h0:natsE (lisN s 0)=[]:=by unfold lisN natsE;rfl
 have H0:=J1 h0;clear hk h0;refine ClR.walk (c:=_) hc Tryz.func87 rfl (by kernel_rfl) rfl rowR_fail ?_
 try simp only[entryEnv,Nat.reduceAdd,List.nil_append,List.cons_append,emptyHp]
 repeat' (first|refine goS ?_|(refine go2 ?_ ?_<;>intro hh)|fail)
 refine W.loopV (6) [0] [] (fun k e lm hp=>∃u,e.get 4=some (.int .i64 ↑k)/\e.get 3=some (u)/\BltN h.next hp u 1 (natsE (lisN s k))/\HExt h hp) ?_ ?_
 ·skip
  refine⟨.nilslice,?_,?_,?_,HExt.refl _⟩
  ·simp[go_sem, *]
  ·simp[go_sem, *]
  ·rw[H0.out];exact BltN.nil
 intro k e lm hp hk0 hce hcl hinv;simp only[keepE,and_true]at hce;have c0:=hce;clear hce;simp only[go_sem, *,Nat.reduceBEq,Nat.reduceEqDiff,reduceIte]at c0;clear hcl;obtain⟨u,h4,h3,hB,hX⟩:=hinv;by_cases hlt:k<6
 ·have hd0:=dT hlt
  have hv_0:=wrap_succ hlt (by unfold maxL;omega);have hbo1:=hB.blt.out;have hll:(natsE (lisN s k)).length+1 <=most:=by
   rw[natsE_len];have:=lisN_len s k;unfold most;omega
  have hd00:decide ((k:Int)<6)=true:=by simp only[decide_eq_true_eq];omega
  have k133:=HK.out k hlt;have HLT0:=J1 hlt;clear hlt;cases hb:s.testBit k with
  |true=>
   have hnx:=lisN_yes hb;rw[hb]at k133;have HNX:=J1 hnx;clear hb hnx;repeat' (first|(apply WO1.appendN (t:=36) (u:=36) (e:=3) (e':=3) (sz:=1) (tl:=[]) (hb:=hB) (hx:=HExt.pair hX);exact Z1;exact rfl;exact Z2;exact Z2;exact Z2;(focus (exact ty_row36));exact Z1;(focus (intro v hv;simp at hv;subst hv;first|rfl|exact hsc));(focus (simp only[List.length_map,List.length_cons,List.length_nil];exact hll));(focus (simp));(intro v' h' hB' ho' hX';have hcc':=hB'.blt.cells;have htt':=hB'.blt.tup;simp only[AV.cells]at hcc';simp only[isTuple]at htt';simp only[pM,pN]))|refine go1 ?_|refine uJ (k133 _) ?_|(refine go2 ?_ ?_<;>intro hh)|fail)
   all_goals refine contV_mk J9 J7 J8 ?_
   all_goals refine⟨v',?_,?_,?_,hX'⟩
   all_goals first|exact Z2|skip
   ·rw[HNX.out,natsE_app];exact hB'
  |false=>
   have hnx:=lisN_no hb;rw[hb]at k133;have HNX:=J1 hnx;have HB:=J1 hB;have HX:=J1 hX;clear hb hnx hB hX;repeat' (first|refine goS ?_|refine uJ (k133 _) ?_|(refine go2 ?_ ?_<;>intro hh)|fail)
   all_goals refine contV_mk J9 J7 J8 ?_
   all_goals refine⟨u,?_,?_,?_,HX.out⟩
   all_goals first|exact Z2|skip
   ·rw[HNX.out];exact HB.out
 ·have hd0:=dF hlt
  obtain rfl:k=6:=by omega
  have hd00:decide (((6:Nat):Int)<6)=false:=rfl;have hbo1:=hB.blt.out;have HX:=J1 hX;have HB:=J1 hB;clear hB hX;repeat' (first|refine goS ?_|(refine go2 ?_ ?_<;>intro hh)|fail)
  all_goals (simp only[rV Tryz.func87,Tryz.results87];first|exact J5|refine J6 ?_)
  exact⟨_,_,HX.out,rfl,HB.out⟩
end
end Go.AM
namespace Go.AM
open Go Go.Proofs
open Go.Mo7 (befL befH insR insP shiAt sumI sumI_app until7 begun until_law begun_is early_mono)
variable[Keep]
theorem maxV_max(a b:Int):maxV a b=max a b:=by unfold maxV;split<;>omega
theorem early_fold:∀(ls:List Ln) (k:Nat) (d:Int),k<ls.length->Go.Mo7.early (lns7 ls) k d=(ls.take (k+1)).foldl (fun d x=>maxV d x.flo) d
 | [],k,d,h=>by simp at h
 |x::l,0,d,_=>by
  show Go.Mo7.early (_::lns7 l) 0 d=_;rw[Go.Mo7.early];simp[maxV_max,l7]
 |x::l,k+1,d,h=>by
  show Go.Mo7.early (_::lns7 l) (k+1) d=_;rw[Go.Mo7.early,early_fold l k _ (by simpa using h)];simp[maxV_max,l7]
theorem early_is{ls:List Ln}{k:Nat}(h:k<ls.length):Go.Mo7.early (lns7 ls) k 0=dayA ls (k+1):=by
 rw[early_fold ls k 0 h];rfl
theorem lns7_len(ls:List Ln):(lns7 ls).length=ls.length:=by unfold lns7;rw[List.length_map]
theorem cnt_range(p:Nat->Bool):∀n,(List.range (n+1)).countP p=if p n=true then (List.range n).countP p+1 else (List.range n).countP p:=fun n=>by
 rw[List.range_succ,List.countP_append];cases h:p n<;>simp[List.countP_cons,h]
theorem cntD_is(ls:List Ln)(day:Int):∀n,n <=ls.length->cntD ls day n=(List.range n).countP fun k=>decide (Go.Mo7.early (lns7 ls) k 0 <=day)
 |0,_=>rfl
 | n + 1, h => by
  rw[cnt_range,<-cntD_is ls day n (by omega)];have e:=early_is (ls:=ls) (k:=n) (by omega);rw[e];unfold cntD;by_cases q:dayA ls (n+1) <=day
  ·rw[if_pos q,if_pos (by simpa using q)]
   cases n<;>rfl
  ·rw[if_neg q,if_neg (by simpa using q)]
   cases n<;>rfl
theorem unt_is(ls:List Ln)(day:Int):untP ls day=until7 (lns7 ls) day:=by
 unfold untP until7 Go.Mo7.begun;rw[cntD_is ls day _ (Nat.le_refl _),lns7_len]
def wayR(ls:List Ln)(day:Int)(s n:Nat):List (Nat×Nat):=((List.range n).filter fun k=>insR (lns7 ls) k (s:Int)&&decide (dayA ls (k+1) <=day)).map fun k=>(s,k)
theorem wayR_zero(ls:List Ln)(day:Int)(s:Nat):wayR ls day s 0=[]:=rfl
theorem wayR_yes{ls:List Ln}{day:Int}{s n:Nat}(h1:insR (lns7 ls) n (s:Int)=true)(h2:decide (dayA ls (n+1) <=day)=true):wayR ls day s (n+1)=wayR ls day s n++[(s,n)]:=by
 unfold wayR;rw[List.range_succ,List.filter_append,List.map_append,List.filter_cons_of_pos (by rw[h1,h2];rfl)];rfl
theorem wayR_no{ls:List Ln}{day:Int}{s n:Nat}(h:(insR (lns7 ls) n (s:Int)&&decide (dayA ls (n+1) <=day))=false):wayR ls day s (n+1)=wayR ls day s n:=by
 unfold wayR;rw[List.range_succ,List.filter_append,List.map_append,List.filter_cons_of_neg (by rw[h];decide)];simp
theorem wayR_len(ls:List Ln)(day:Int)(s n:Nat):(wayR ls day s n).length <=n:=by
 unfold wayR;rw[List.length_map];have:=List.length_filter_le (fun k=>insR (lns7 ls) k (s:Int)&&decide (dayA ls (k+1) <=day)) (List.range n);simpa using this
theorem mem_wayR{ls:List Ln}{day:Int}{s n:Nat}{p:Nat×Nat}:p∈wayR ls day s n↔p.1=s/\p.2<n/\insR (lns7 ls) p.2 (s:Int)=true/\dayA ls (p.2+1) <=day:=by
 unfold wayR;simp only[List.mem_map,List.mem_filter,List.mem_range,Bool.and_eq_true,decide_eq_true_eq];constructor
 ·rintro⟨k,⟨h1,h2,h3⟩,rfl⟩
  exact⟨rfl,h1,h2,h3⟩
 ·rintro⟨h0,h1,h2,h3⟩
  exact⟨p.2,⟨h1,h2,h3⟩,by rw[<-h0]⟩
def waysF(ok:Nat->Bool)(ls:List Ln)(day:Int):Nat->List (Nat×Nat)
 |0=>[]
 |n+1=>if ok n=true then waysF ok ls day n++wayR ls day (n+1) ls.length else waysF ok ls day n
theorem waysF_zero(ok:Nat->Bool)(ls:List Ln)(day:Int):waysF ok ls day 0=[]:=rfl
theorem waysF_yes{ok:Nat->Bool}{n:Nat}(h:ok n=true)(ls:List Ln)(day:Int):waysF ok ls day (n+1)=waysF ok ls day n++wayR ls day (n+1) ls.length:=by
 conv=>lhs;unfold waysF
 rw[if_pos h]
theorem waysF_no{ok:Nat->Bool}{n:Nat}(h:ok n=false)(ls:List Ln)(day:Int):waysF ok ls day (n+1)=waysF ok ls day n:=by
 conv=>lhs;unfold waysF
 rw[if_neg (by rw[h];decide)]
theorem waysF_len(ok:Nat->Bool)(ls:List Ln)(day:Int):∀n,(waysF ok ls day n).length <=n * ls.length
 |0=>Nat.zero_le _
 |n+1=>by
  have ih:=waysF_len ok ls day n;have hr:=wayR_len ls day (n+1) ls.length;rw[Nat.add_mul,Nat.one_mul];cases h:ok n with
  |true=>rw[waysF_yes h,List.length_append];omega
  |false=>rw[waysF_no h];omega
theorem mem_ways{ok:Nat->Bool}{ls:List Ln}{day:Int}{p:Nat×Nat}:∀{n},p∈waysF ok ls day n↔∃i,i<n/\p.1=i+1/\ok i=true/\p.2<ls.length/\insR (lns7 ls) p.2 ((i+1:Nat):Int)=true/\dayA ls (p.2+1) <=day
 |0=>by
  constructor
  ·intro h;cases h
  ·rintro⟨i,hi,_⟩;omega
 | n + 1 => by
  have ih:=mem_ways (ok:=ok) (ls:=ls) (day:=day) (p:=p) (n:=n);cases h:ok n with
  | false =>
   rw[waysF_no h,ih];constructor
   ·rintro⟨i,hi,q⟩
    exact⟨i,by omega,q⟩
   ·rintro⟨i,hi,q1,q2,q3⟩
    have:i≠n:=fun e=>by rw[e,h]at q2;cases q2
    exact⟨i,by omega,q1,q2,q3⟩
  | true =>
   rw[waysF_yes h,List.mem_append,ih,mem_wayR];constructor
   ·rintro(⟨i,hi,q⟩|⟨h0,q⟩)
    ·exact⟨i,by omega,q⟩
    ·exact⟨n,by omega,h0,h,q⟩
   ·rintro⟨i,hi,q1,q2,q3⟩
    by_cases e:i=n
    ·subst e
     exact .inr ⟨q1,q3⟩
    ·exact .inl ⟨i,by omega,q1,q2,q3⟩
theorem wayR_some{ls:List Ln}(ok:lnsOk ls)(day:Int){s:Nat}(hs:1 <=s):wayR ls day s ls.length≠[]↔(s:Int) <=untP ls day:=by
 rw[unt_is,until_law (l7_ok ok) day (by omega),lns7_len];constructor
 ·intro h
  cases e:wayR ls day s ls.length with
  |nil=>exact absurd e h
  |cons p r=>
   have hp:p∈wayR ls day s ls.length:=by rw[e];exact List.mem_cons_self
   obtain⟨_,h1,h2,h3⟩:=mem_wayR.1 hp;exact⟨p.2,h1,h2,by rw[early_is h1];exact h3⟩
 ·rintro⟨k,h1,h2,h3⟩ e
  have:(s,k)∈wayR ls day s ls.length:=mem_wayR.2 ⟨rfl,h1,h2,by rw[<-early_is h1];exact h3⟩;rw[e]at this;cases this
def endsW(l:List (Nat×Nat)):Nat×Nat:=((l.head?.map Prod.fst).getD 0,(l.getLast?.map Prod.fst).getD 0)
theorem ends_app{l r:List (Nat×Nat)}{s:Nat}(hr:r≠[])(ha:∀p∈r,p.1=s):endsW (l++r)=(if l=[]then s else (endsW l).1,s):=by
 unfold endsW;have h2:(l++r).getLast? =some (r.getLast hr):=by rw[List.getLast?_append,List.getLast?_eq_some_getLast hr];rfl
 have h3:(r.getLast hr).1=s:=ha _ (List.getLast_mem hr);rw[h2];cases l with
 | nil =>
  cases r with
  |nil=>exact absurd rfl hr
  |cons p r=>
   have:=ha p List.mem_cons_self;simp only[List.nil_append,List.head?_cons,Option.map_some,Option.getD_some,if_true,h3,this]
 |cons q l=>simp only[List.cons_append,List.head?_cons,Option.map_some,Option.getD_some,h3,reduceCtorEq,if_false]
theorem ways_ends{ok:Nat->Bool}{ls:List Ln}(hok:lnsOk ls)(day:Int){u:Nat}(hu:untP ls day=(u:Int)):∀n,(waysF ok ls day n=[]↔(betF ok (min n u)).1=0)/\endsW (waysF ok ls day n)=betF ok (min n u)
 |0=>by
  have e:min 0 u=0:=by omega
  rw[e,betF_zero,waysF_zero];exact⟨⟨fun _=>rfl,fun _=>rfl⟩,rfl⟩
 | n + 1 => by
  obtain⟨i1,i2⟩:=ways_ends hok day hu n;have hw:=wayR_some hok day (s:=n+1) (by omega);by_cases q:n+1 <=u
  ·have e1:min (n+1) u=n+1:=by omega
   have e2:min n u=n:=by omega
   rw[e2]at i1 i2;rw[e1];have hne:=hw.2 (by omega);cases h:ok n with
   | true =>
    rw[waysF_yes h,betF_yes h];have he:=ends_app (l:=waysF ok ls day n) hne (s:=n+1) fun p hp=>(mem_wayR.1 hp).1;rw[he];constructor
    ·constructor
     ·intro h0
      exact absurd (List.append_eq_nil_iff.1 h0).2 hne
     ·intro h0
      exfalso
      simp only at h0;by_cases g:(betF ok n).1=0
      ·rw[if_pos g]at h0;omega
      ·rw[if_neg g]at h0;exact g h0
    ·by_cases g:(betF ok n).1=0
     ·rw[if_pos g,if_pos (i1.2 g)]
     ·rw[if_neg g,if_neg (fun h0=>g (i1.1 h0)),i2]
   |false=>
    rw[waysF_no h,betF_no h];exact⟨i1,i2⟩
  ·have e1:min (n+1) u=min n u:=by omega
   rw[e1];have hr:wayR ls day (n+1) ls.length=[]:=by
    cases e:wayR ls day (n+1) ls.length with
    |nil=>rfl
    |cons a b=>exact absurd (hw.1 (by rw[e];simp)) (by omega)
   cases h:ok n with
   |true=>
    rw[waysF_yes h,hr,List.append_nil];exact⟨i1,i2⟩
   |false=>
    rw[waysF_no h];exact⟨i1,i2⟩
def wayH(ls:List Ln)(l:List (Nat×Nat)):Nat:=l.foldl (fun a p=>match ls[p.2]? with|some x=>a ||| 2 ^ x.house.toNat|none=>a) 0
theorem wayH_nil(ls:List Ln):wayH ls []=0:=rfl
theorem wayH_next{ls:List Ln}{l:List (Nat×Nat)}{k:Nat}{p:Nat×Nat}{x:Ln}(h:l[k]? =some p)(hx:ls[p.2]? =some x):wayH ls (l.take (k+1))=wayH ls (l.take k) ||| 2 ^ x.house.toNat:=by
 unfold wayH;rw[take_next h,List.foldl_append];simp only[List.foldl_cons,List.foldl_nil,hx]
theorem pow_bit(k q:Nat):(2 ^ k).testBit q=decide (k=q):=Nat.testBit_two_pow
theorem wayH_bit(ls:List Ln)(q:Nat):∀(l:List (Nat×Nat)) (a:Nat),(l.foldl (fun a p=>match ls[p.2]? with|some x=>a ||| 2 ^ x.house.toNat|none=>a) a).testBit q=(a.testBit q||l.any fun p=>match ls[p.2]? with|some x=>decide (x.house.toNat=q)|none=>false)
 | [],a=>by simp
 | p :: l, a => by
  rw[List.foldl_cons,wayH_bit ls q l,List.any_cons];cases ls[p.2]? with
  |none=>simp
  |some x=>
   simp only[Nat.testBit_or,pow_bit];rw[Bool.or_assoc]
theorem houseF_bit(ls:List Ln)(p:Nat->Bool)(q:Nat):∀n,(houseF ls p n).testBit q=(List.range n).any fun i=>match ls[i]? with|some x=>p i&&decide (x.house.toNat=q)|none=>false
 |0=>by rw[houseF_zero,Nat.zero_testBit];rfl
 | n + 1 => by
  rw[List.range_succ,List.any_append,<-houseF_bit ls p q n];simp only[List.any_cons,List.any_nil,Bool.or_false];cases h:ls[n]? with
  |none=>
   rw[Bool.or_false]
   conv=>lhs;unfold houseF
   rw[h]
  |some x=>
   rw[houseF_next h];cases hp:p n with
   |true=>rw[if_pos rfl,Nat.testBit_or,pow_bit];simp only[Bool.true_and]
   |false=>rw[if_neg (by decide)];simp only[Bool.false_and,Bool.or_false]
theorem wayH_is{mi gh:Int}{l:List Md}{m:Nat}{d:Md}{seen:Nat}{day:Int}(ok:lnsOk d.loans):wayH d.loans (waysF (agrK mi gh l m d seen) d.loans day 36)=houN mi gh l m d seen day:=by
 refine Nat.eq_of_testBit_eq fun q=>?_;unfold wayH houN;rw[wayH_bit,houseF_bit,Nat.zero_testBit,Bool.false_or,Bool.eq_iff_iff,List.any_eq_true,List.any_eq_true];constructor
 ·rintro⟨p,hp,hq⟩
  obtain⟨i,h1,h2,h3,h4,h5,h6⟩:=mem_ways.1 hp;refine⟨p.2,List.mem_range.2 h4,?_⟩;cases hx:d.loans[p.2]? with
  |none=>rw[hx]at hq;cases hq
  |some x=>
   rw[hx]at hq;simp only[Bool.and_eq_true];refine⟨?_,hq⟩;unfold houP houA;rw[Bool.and_eq_true,decide_eq_true_eq,List.any_eq_true];refine⟨h6,i,List.mem_range.2 h1,?_⟩;rw[Bool.and_eq_true,Go.Mo7.ins_same (l7_ok ok) _ (by omega)];exact⟨h5,h3⟩
 ·rintro⟨k,hk,hq⟩
  cases hx:d.loans[k]? with
  |none=>rw[hx]at hq;cases hq
  |some x=>
   rw[hx]at hq;simp only[Bool.and_eq_true]at hq;obtain⟨hp,hq⟩:=hq;unfold houP houA at hp;rw[Bool.and_eq_true,decide_eq_true_eq,List.any_eq_true]at hp;obtain⟨h6,i,hi,h5⟩:=hp;rw[Bool.and_eq_true,Go.Mo7.ins_same (l7_ok ok) _ (by omega)]at h5;refine⟨(i+1,k),mem_ways.2 ⟨i,List.mem_range.1 hi,rfl,h5.2,List.mem_range.1 hk,h5.1,h6⟩,?_⟩;simp only[hx];exact hq
def oqL(a:Nat)(l:List Nat):Nat:=l.foldl (fun a k=>a ||| 2 ^ k) a
theorem oqL_nil(a:Nat):oqL a []=a:=rfl
theorem oqL_next{l:List Nat}{k q:Nat}(a:Nat)(h:l[k]? =some q):oqL a (l.take (k+1))=oqL a (l.take k) ||| 2 ^ q:=by
 unfold oqL;rw[take_next h,List.foldl_append];rfl
theorem oqL_bit(q:Nat):∀(l:List Nat) (a:Nat),(oqL a l).testBit q=(a.testBit q||decide (q∈l))
 | [],a=>by simp[oqL]
 | k :: l, a => by
  show (oqL (a ||| 2 ^ k) l).testBit q=_;rw[oqL_bit q l,Nat.testBit_or,pow_bit,Bool.or_assoc]
  congr 1
  rw[Bool.eq_iff_iff];simp only[Bool.or_eq_true,decide_eq_true_eq,List.mem_cons];constructor
  ·rintro(h|h)
   ·exact .inl h.symm
   ·exact .inr h
  ·rintro(h|h)
   ·exact .inl h.symm
   ·exact .inr h
theorem oqL_lis{a s:Nat}(hs:s<64):oqL a (lisN s 6)=a ||| s:=by
 refine Nat.eq_of_testBit_eq fun q=>?_;rw[oqL_bit,Nat.testBit_or]
 congr 1
 rw[Bool.eq_iff_iff,decide_eq_true_eq];unfold lisN;rw[List.mem_filter,List.mem_range];constructor
 ·exact fun h=>h.2
 ·intro h
  refine⟨?_,h⟩;by_cases hq:q<6
  ·exact hq
  ·exfalso
   have:s.testBit q=false:=Nat.testBit_lt_two_pow (Nat.lt_of_lt_of_le hs (by
    have:(2:Nat) ^ 6 <=2 ^ q:=Nat.pow_le_pow_right (by omega) (by omega);omega))
   rw[this]at h;cases h
theorem oqL_lt{a:Nat}{l:List Nat}(ha:a<64)(h:∀q∈l,q<6):oqL a l<64:=by
 induction l generalizing a with
 |nil=>exact ha
 |cons k l ih=>
  show oqL (a ||| 2 ^ k) l<64;refine ih ?_ fun q hq=>h q (List.mem_cons_of_mem _ hq);have h2:2 ^ k<2 ^ 6:=Nat.pow_lt_pow_right (by omega) (h k List.mem_cons_self);exact Nat.or_lt_two_pow (n:=6) ha h2
theorem mem_lis{s n q:Nat}(h:q∈lisN s n):q<n:=by
 unfold lisN at h;exact List.mem_range.1 (List.mem_filter.1 h).1
end Go.AM
namespace Go.Mo7
theorem sure_mono{ms:List Mk7}{c d:Int}{q:Nat}(h:c <=d)(hs:sureS ms c q=true):sureS ms d q=true:=by
 unfold sureS at *;rw[List.any_eq_true]at *;obtain⟨x,hx,hq⟩:=hs;rw[Bool.and_eq_true,decide_eq_true_eq]at hq;exact⟨x,hx,by rw[Bool.and_eq_true,decide_eq_true_eq];exact⟨hq.1,by omega⟩⟩
theorem can_mono{ms:List Mk7}{c d:Int}{q:Nat}(h:c <=d)(hs:canS ms c q=true):canS ms d q=true:=by
 unfold canS at *;rw[List.any_eq_true]at *;obtain⟨x,hx,hq⟩:=hs;rw[Bool.and_eq_true,decide_eq_true_eq]at hq;exact⟨x,hx,by rw[Bool.and_eq_true,decide_eq_true_eq];exact⟨hq.1,by omega⟩⟩
def RangeOk(r:List Lv):Prop:=∀v∈r,v.lo <=v.hi/\SpotOk v.ms
theorem RangeOk.tail{v:Lv}{r:List Lv}(h:RangeOk (v::r)):RangeOk r:=fun x hx=>h x (by simp[hx])
theorem born_some:∀{r:List Lv},RangeOk r->∃n,Born r n
 | [],_=>⟨_,.nil⟩
 |v::r,h=>by
  obtain⟨p,hp⟩:=born_some h.tail;have hv:=h v (by simp);exact⟨_,.cons (c:=v.lo) (own:=sureS v.ms v.lo) (Int.le_refl _) hv.1 hp (fun q hq=>sure_can hv.2 hq) (fun q hq=>hq)⟩
def sureR(r:List Lv)(q:Nat):Bool:=r.any fun v=>sureS v.ms v.lo q
def canR(r:List Lv)(q:Nat):Bool:=r.any fun v=>canS v.ms v.hi q
theorem born_sure{r:List Lv}{n:Nat->Bool}(h:Born r n){q:Nat}(hq:sureR r q=true):n q=true:=by
 induction h with
 |nil=>simp[sureR]at hq
 |cons h1 h2 hb h4 h5 ih=>
  unfold sureR at hq;rw[List.any_cons,Bool.or_eq_true]at hq;show (_||_)=true;rw[Bool.or_eq_true];rcases hq with hq|hq
  ·exact .inr (h5 q (sure_mono h1 hq))
  ·exact .inl (ih hq)
theorem born_can{r:List Lv}{n:Nat->Bool}(h:Born r n){q:Nat}(hq:n q=true):canR r q=true:=by
 induction h with
 |nil=>cases hq
 |cons h1 h2 hb h4 h5 ih=>
  unfold canR;rw[List.any_cons,Bool.or_eq_true];have hq:(_||_)=true:=hq;rw[Bool.or_eq_true]at hq;rcases hq with hq|hq
  ·exact .inr (ih hq)
  ·exact .inl (can_mono h2 (h4 q hq))
theorem born_least:∀{r:List Lv},RangeOk r->∃n,Born r n/\∀q,n q=sureR r q
 | [],_=>⟨_,.nil,fun q=>rfl⟩
 |v::r,h=>by
  obtain⟨p,hp,he⟩:=born_least h.tail;have hv:=h v (by simp);refine⟨_,.cons (c:=v.lo) (own:=sureS v.ms v.lo) (Int.le_refl _) hv.1 hp (fun q hq=>sure_can hv.2 hq) (fun q hq=>hq),fun q=>?_⟩;show (p q||sureS v.ms v.lo q)=sureR (v::r) q;rw[he];unfold sureR;rw[List.any_cons,Bool.or_comm]
theorem born_most:∀{r:List Lv},RangeOk r->∃n,Born r n/\∀q,n q=canR r q
 | [],_=>⟨_,.nil,fun q=>rfl⟩
 |v::r,h=>by
  obtain⟨p,hp,he⟩:=born_most h.tail;have hv:=h v (by simp);refine⟨_,.cons (c:=v.hi) (own:=canS v.ms v.hi) hv.1 (Int.le_refl _) hp (fun q hq=>hq) (fun q hq=>sure_can hv.2 hq),fun q=>?_⟩;show (p q||canS v.ms v.hi q)=canR (v::r) q;rw[he];unfold canR;rw[List.any_cons,Bool.or_comm]
theorem all_sure{r:List Lv}(ok:RangeOk r)(q:Nat):(∀n,Born r n->n q=true)↔sureR r q=true:=by
 constructor
 ·intro h
  obtain⟨n,hn,he⟩:=born_least ok;rw[<-he];exact h n hn
 ·intro h n hn
  exact born_sure hn h
theorem some_can{r:List Lv}(ok:RangeOk r)(q:Nat):(∃n,Born r n/\n q=true)↔canR r q=true:=by
 constructor
 ·rintro⟨n,hn,h⟩
  exact born_can hn h
 ·intro h
  obtain⟨n,hn,he⟩:=born_most ok;exact⟨n,hn,by rw[he];exact h⟩
structure Tv where
 first:Mk7->Int
 cut:Int
structure TrueL(r:List (Lv×Tv)):Prop where
 cut:∀y∈r,y.1.lo <=y.2.cut/\y.2.cut <=y.1.hi
 first:∀y∈r,∀x∈y.1.ms,x.lo <=y.2.first x/\y.2.first x <=x.hi
theorem TrueL.tail{y:Lv×Tv}{r:List (Lv×Tv)}(h:TrueL (y::r)):TrueL r:=⟨fun x hx=>h.cut x (by simp[hx]),fun x hx=>h.first x (by simp[hx])⟩
end Go.Mo7
namespace Go.AM
open Go Go.Proofs
open Go.Mo7 (Mk7 Lv Born hasS sureS canS setN setN_or setN_bit setN_zero setN_lt setN_ext min_zero minN numS setN_num numS_lt numS_set can_has or_lt)
variable[Keep]
def mk7(x:Mk):Mk7:=⟨x.spot.toNat,x.lo,x.hi⟩
def mks7(ms:List Mk):List Mk7:=ms.map mk7
def lvF(l:List Md):Nat->Nat->List Lv
 |0,_=>[]
 |f+1,j=>match l[j]? with
  |some d=>if d.parent<0 then []else ⟨mks7 (marksA l d.parent.toNat),d.clo,d.chi⟩::lvF l f d.parent.toNat
  |none=>[]
def lvl(l:List Md)(j:Nat):List Lv:=lvF l (j+1) j
theorem lvF_more{l:List Md}(wf:WfP l l.length):∀(f j:Nat),j<f->lvF l f j=lvl l j:=by
 intro f;induction f using Nat.strongRecOn with
 | _ f ih =>
  intro j hj;cases f with
  |zero=>omega
  | succ f =>
   unfold lvl;unfold lvF;cases hd:l[j]? with
   |none=>rfl
   | some d =>
    simp only;by_cases hp:d.parent<0
    ·rw[if_pos hp,if_pos hp]
    ·rw[if_neg hp,if_neg hp]
     have hjl:=(List.getElem?_eq_some_iff.1 hd).1;have hw:=wf j d hjl hd;have e1:=ih f (by omega) d.parent.toNat (by omega);have e2:lvF l j d.parent.toNat=lvl l d.parent.toNat:=by
      by_cases hjf:j<f+1
      ·exact ih j hjf d.parent.toNat (by omega)
      ·omega
     rw[e1,e2]
theorem lvl_top{l:List Md}{j:Nat}{d:Md}(hd:l[j]? =some d)(hp:d.parent<0):lvl l j=[]:=by
 unfold lvl lvF;rw[hd];simp only[if_pos hp]
theorem lvl_up{l:List Md}(wf:WfP l l.length){j:Nat}{d:Md}(hd:l[j]? =some d)(hp:¬d.parent<0):lvl l j=⟨mks7 (marksA l d.parent.toNat),d.clo,d.chi⟩::lvl l d.parent.toNat:=by
 have hjl:=(List.getElem?_eq_some_iff.1 hd).1;have hw:=wf j d hjl hd;rw[<-lvF_more wf j d.parent.toNat (by omega)]
 conv=>lhs;unfold lvl lvF
 rw[hd];simp only[if_neg hp]
theorem mask_set(p:Mk->Bool):∀(ms:List Mk) (n q:Nat),spotsOk ms=true->setN (ms.foldl (fun n x=>if p x=true then n ||| 2 ^ x.spot.toNat else n) n) q=(setN n q||ms.any fun x=>x.spot.toNat==q&&p x)
 | [],n,q,_=>by simp
 | x :: ms, n, q, h => by
  unfold spotsOk at h;rw[List.all_cons,Bool.and_eq_true]at h;have ih:=fun n=>mask_set p ms n q h.2;rw[List.foldl_cons,ih,List.any_cons];by_cases hp:p x=true
  ·rw[if_pos hp,setN_or,setN_bit,hp,Bool.and_true,Bool.or_assoc]
  ·rw[if_neg hp]
   have:p x=false:=by simpa using hp
   rw[this,Bool.and_false,Bool.false_or]
theorem sure_set{ms:List Mk}(h:spotsOk ms=true)(s:Int)(q:Nat):setN (sureM ms s) q=sureS (mks7 ms) s q:=by
 have:=mask_set (fun x=>decide (x.hi <=s)) ms 0 q h;simp only[decide_eq_true_eq]at this;unfold sureM;rw[this,setN_zero,Bool.false_or];unfold sureS mks7;rw[List.any_map];rfl
theorem can_set{ms:List Mk}(h:spotsOk ms=true)(s:Int)(q:Nat):setN (canM ms s) q=canS (mks7 ms) s q:=by
 have:=mask_set (fun x=>decide (x.lo <=s)) ms 0 q h;simp only[decide_eq_true_eq]at this;unfold canM;rw[this,setN_zero,Bool.false_or];unfold canS mks7;rw[List.any_map];rfl
theorem mask_lt(p:Mk->Bool):∀(ms:List Mk) (n:Nat),spotsOk ms=true->n<256->ms.foldl (fun n x=>if p x=true then n ||| 2 ^ x.spot.toNat else n) n<256
 | [],n,_,hn=>hn
 | x :: ms, n, h, hn => by
  unfold spotsOk at h;rw[List.all_cons,Bool.and_eq_true]at h;have hs:0 <=x.spot/\x.spot <=7:=by
   have:=h.1;unfold inB at this;rw[Bool.and_eq_true,decide_eq_true_eq,decide_eq_true_eq]at this;exact this
  rw[List.foldl_cons];refine mask_lt p ms _ h.2 ?_;split
  ·exact or_lt hn (pow_lt hs.1 hs.2)
  ·exact hn
theorem sure_lt{ms:List Mk}(h:spotsOk ms=true)(s:Int):sureM ms s<256:=by
 have:=mask_lt (fun x=>decide (x.hi <=s)) ms 0 h (by omega);simp only[decide_eq_true_eq]at this;exact this
theorem can_lt{ms:List Mk}(h:spotsOk ms=true)(s:Int):canM ms s<256:=by
 have:=mask_lt (fun x=>decide (x.lo <=s)) ms 0 h (by omega);simp only[decide_eq_true_eq]at this;exact this
theorem setP_is(p:Nat->Bool)(x y:Nat):setP p x y=true↔p y=true\/y=x:=by
 unfold setP;rw[Bool.or_eq_true,beq_iff_eq]
theorem grownS_is(su ca n:Nat)(o:Nat->Bool)(y:Nat):∀k,grownS su ca n o k y=true↔o y=true\/∃own,own<k/\subOk su ca own=true/\y=n ||| own
 |0=>by simp[grownS]
 | k + 1 => by
  have ih:=grownS_is su ca n o y k;rw[grownS_next];by_cases h:subOk su ca k=true
  ·rw[if_pos h,setP_is,ih]
   constructor
   ·rintro((h1|⟨w,h2,h3,h4⟩)|h1)
    ·exact .inl h1
    ·exact .inr ⟨w,by omega,h3,h4⟩
    ·exact .inr ⟨k,by omega,h,h1⟩
   ·rintro(h1|⟨w,h2,h3,h4⟩)
    ·exact .inl (.inl h1)
    ·by_cases e:w=k
     ·subst e;exact .inr h4
     ·exact .inl (.inr ⟨w,by omega,h3,h4⟩)
  ·rw[if_neg h,ih]
   constructor
   ·rintro(h1|⟨w,h2,h3,h4⟩)
    ·exact .inl h1
    ·exact .inr ⟨w,by omega,h3,h4⟩
   ·rintro(h1|⟨w,h2,h3,h4⟩)
    ·exact .inl h1
    ·by_cases e:w=k
     ·subst e;exact absurd h3 h
     ·exact .inr ⟨w,by omega,h3,h4⟩
theorem memP_is(p:Nat->Bool)(k n:Nat):n∈memP p k↔n<k/\p n=true:=by
 unfold memP;rw[List.mem_filter,List.mem_range]
theorem grownL_is(su ca:Nat)(y:Nat):∀(L:List Nat) (o:Nat->Bool),(L.foldl (fun o n=>grownS su ca n o 256) o) y=true↔o y=true\/∃n∈L,∃own,own<256/\subOk su ca own=true/\y=n ||| own
 | [],o=>by simp
 | n :: L, o => by
  rw[List.foldl_cons,grownL_is su ca y L,grownS_is];constructor
  ·rintro((h|h)|⟨m,h1,h2⟩)
   ·exact .inl h
   ·exact .inr ⟨n,by simp,h⟩
   ·exact .inr ⟨m,by simp[h1],h2⟩
  ·rintro(h|⟨m,h1,h2⟩)
   ·exact .inl (.inl h)
   ·rcases List.mem_cons.1 h1 with rfl|h1
    ·exact .inl (.inr h2)
    ·exact .inr ⟨m,h1,h2⟩
theorem grownF_is(su ca:Nat)(bp o:Nat->Bool)(y:Nat):grownF su ca bp o y=true↔o y=true\/∃n,n<256/\bp n=true/\∃own,own<256/\subOk su ca own=true/\y=n ||| own:=by
 unfold grownF;rw[grownL_is];constructor
 ·rintro(h|⟨n,h1,h2⟩)
  ·exact .inl h
  ·obtain⟨h3,h4⟩:=(memP_is _ _ _).1 h1
   exact .inr ⟨n,h3,h4,h2⟩
 ·rintro(h|⟨n,h1,h2,h3⟩)
  ·exact .inl h
  ·exact .inr ⟨n,(memP_is _ _ _).2 ⟨h1,h2⟩,h3⟩
theorem cutF_is(pm:List Mk)(clo:Int)(bp:Nat->Bool)(y:Nat):∀i,cutF pm clo bp i y=true↔∃j:Nat,j<i/\∃n,n<256/\bp n=true/\∃own,own<256/\subOk (sureM pm (clo+j)) (canM pm (clo+j)) own=true/\y=n ||| own
 |0=>by simp[cutF,noP]
 | i + 1 => by
  rw[cutF_succ,grownF_is,cutF_is pm clo bp y i];constructor
  ·rintro(⟨j,h1,h2⟩|h)
   ·exact⟨j,by omega,h2⟩
   ·exact⟨i,by omega,h⟩
  ·rintro⟨j,h1,h2⟩
   by_cases e:j=i
   ·subst e;exact .inr h2
   ·exact .inl ⟨j,by omega,h2⟩
theorem sub_is{su ca own:Nat}(h1:su<256)(h2:ca<256)(h3:own<256):subOk su ca own=true↔(∀q,setN own q=true->setN ca q=true)/\∀q,setN su q=true->setN own q=true:=by
 unfold subOk;rw[Bool.and_eq_true,beq_iff_eq,beq_iff_eq,min_zero h3 h2,min_zero h1 h3]
end Go.AM
namespace Go.AM
open Go Go.Proofs
open Go.Mo7 (Mk7 Lv Born hasS sureS canS setN setN_or setN_bit setN_zero setN_lt setN_ext numS setN_num numS_lt numS_set can_has or_lt AgrP cnt cnt_eq setN_min minN born_has hasL)
variable[Keep]
structure BkP(l:List Md):Prop where
 mx:l.length <=maxL
 ok:MdsOk l l.length
theorem BkP.wf{l:List Md}(h:BkP l):WfP l l.length:=h.ok.wf h.mx
theorem BkP.sp{l:List Md}(h:BkP l){j:Nat}{d:Md}(hd:l[j]? =some d):spotsOk d.marks=true:=by
 have hj:=(List.getElem?_eq_some_iff.1 hd).1;have h1:=(mdOk_parts (n:=j) (by have:=h.mx;omega) (h.ok j d hj hd)).2.2.2.2.2.2.2.1;unfold spotsOk;rw[List.all_eq_true];intro x hx;have:=badM_no (h1 x hx);unfold inB;rw[Bool.and_eq_true,decide_eq_true_eq,decide_eq_true_eq];exact this.1
theorem bkP_of{b:Bk}(h:bookB b=true)(hm:b.moulds.length <=maxL):BkP b.moulds:=by
 unfold bookB at h;simp only[Bool.and_eq_true]at h;exact⟨hm,fun j d hj hd=>(bookP_at h.2 hj hd).1⟩
theorem setN_lt8{y q:Nat}(hy:y<256)(h:setN y q=true):q<8:=by
 by_cases hq:q<8
 ·exact hq
 ·rw[setN_lt hy (by omega)]at h;cases h
theorem mks_lt8{ms:List Mk}(h:spotsOk ms=true):∀x∈mks7 ms,x.spot<8:=fun x hx=>by
 unfold mks7 at hx;obtain⟨y,hy,rfl⟩:=List.mem_map.1 hx;unfold spotsOk at h;have:=List.all_eq_true.1 h y hy;unfold inB at this;rw[Bool.and_eq_true,decide_eq_true_eq,decide_eq_true_eq]at this;show y.spot.toNat<8;omega
theorem marksA_sp{l:List Md}(h:BkP l)(j:Nat):spotsOk (marksA l j)=true:=by
 unfold marksA;split
 ·rename_i d hd
  exact h.sp hd
 ·rfl
theorem bir_is{l:List Md}(h:BkP l):∀(n j:Nat),j<n->j<l.length->
  (∀y,y<256->birF l j y=true->Born (lvl l j) (setN y))/\∀f,Born (lvl l j) f->∃y,y<256/\birF l j y=true/\∀q,setN y q=f q:=by
 intro n;induction n with
 |zero=>intro j hj;omega
 | succ n ih =>
  intro j hj hl;obtain⟨d,hd⟩:=get_some hl;by_cases hp:d.parent<0
  ·rw[lvl_top hd hp,birF_top hd hp]
   constructor
   ·intro y hy hb
    rw[setP_is]at hb;rcases hb with hb|rfl
    ·cases hb
    ·have:setN 0=fun _=>false:=by funext q;exact setN_zero q
     rw[this];exact .nil
   ·intro f hf
    cases hf;exact⟨0,by omega,(setP_is _ _ _).2 (.inr rfl),fun q=>setN_zero q⟩
  ·have hw:=h.wf j d hl hd
   have hdm:=mdOk_parts (n:=j) (by have:=h.mx;omega) (h.ok j d hl hd);rw[lvl_up h.wf hd hp,birF_cut hd hp hw.2];obtain⟨i1,i2⟩:=ih d.parent.toNat (by omega) (by omega);have hsp:=marksA_sp h d.parent.toNat;have hcn:((cutN d:Nat):Int)=d.chi - d.clo+1:=by unfold cutN;omega
   constructor
   ·intro y hy hb
    obtain⟨k,hk,m,hm,hbm,own,ho,hs,rfl⟩:=(cutF_is _ _ _ _ _).1 hb;obtain⟨s1,s2⟩:=(sub_is (sure_lt hsp _) (can_lt hsp _) ho).1 hs;have e:setN (m ||| own)=fun q=>setN m q||setN own q:=by funext q;exact setN_or m own q
    rw[e];exact .cons (c:=d.clo+k) (by simp only;omega) (by simp only;omega) (i1 m hm hbm) (fun q hq=>by rw[<-can_set hsp];exact s1 q hq) (fun q hq=>s2 q (by rw[sure_set hsp];exact hq))
   ·intro f hf
    cases hf with
    | cons g1 g2 hb h5 h6 =>
     rename_i c p own;simp only at g1 g2;obtain⟨m,hm,hbm,hmq⟩:=i2 p hb;have hown:∀q,own q=true->q<8:=fun q hq=>by
      have:=h5 q hq;rw[<-can_set hsp]at this;exact setN_lt8 (can_lt hsp _) this
     have hc:d.clo+((c - d.clo).toNat:Int)=c:=by omega
     refine⟨m ||| numS own,or_lt hm (numS_lt _),(cutF_is _ _ _ _ _).2 ⟨(c - d.clo).toNat,by omega,m,hm,hbm,numS own,numS_lt _,?_,rfl⟩,fun q=>?_⟩
     ·rw[hc]
      refine(sub_is (sure_lt hsp _) (can_lt hsp _) (numS_lt _)).2 ⟨fun q hq=>?_,fun q hq=>?_⟩
      ·rw[numS_set hown]at hq
       rw[can_set hsp];exact h5 q hq
      ·rw[sure_set hsp]at hq
       rw[numS_set hown];exact h6 q hq
     ·rw[setN_or,hmq,numS_set hown]
theorem cntN_all:((List.range 256).all fun n=>Nat.beq (cntN n) (cnt (setN n)))=true:=by decide+kernel
theorem cntN_is{n:Nat}(h:n<256):cntN n=cnt (setN n):=Nat.eq_of_beq_eq_true (List.all_eq_true.1 cntN_all n (List.mem_range.2 h))
theorem minN_lt{a b:Nat}(ha:a<256):minN a b<256:=by
 have:=Go.Mo7.minN_le (a:=a) (b:=b) (by omega);omega
theorem agr_is{b:Bk}(hbk:bookB b=true)(hmx:b.moulds.length <=maxL){m:Nat}{d:Md}(hd:b.moulds[m]? =some d)(s:Int){seen:Nat}(hs:seen<256) :
  agrN b.miss b.ghost (birthN b.moulds m) (sureM d.marks s) (canM d.marks s) seen=true↔AgrP (mks7 d.marks) (lvl b.moulds m) s (setN seen) b.miss b.ghost:=by
 have hP:=bkP_of hbk hmx;have hml:=(List.getElem?_eq_some_iff.1 hd).1;have hsp:=hP.sp hd;obtain⟨i1,i2⟩:=bir_is hP (m+1) m (by omega) hml;have key:∀n,n<256->(rightB b.miss b.ghost seen (n ||| sureM d.marks s) (n ||| canM d.marks s)=true↔((cnt fun q=>(setN n q||sureS (mks7 d.marks) s q)&&!setN seen q):Int) <=b.miss/\((cnt fun q=>setN seen q&&!(setN n q||canS (mks7 d.marks) s q)):Int) <=b.ghost):=fun n hn=>by
  have h1:=or_lt hn (sure_lt hsp s);have h2:=or_lt hn (can_lt hsp s);unfold rightB;rw[Bool.and_eq_true,decide_eq_true_eq,decide_eq_true_eq,cntN_is (minN_lt h1),cntN_is (minN_lt hs)];have e1:cnt (setN (minN (n ||| sureM d.marks s) seen))=cnt fun q=>(setN n q||sureS (mks7 d.marks) s q)&&!setN seen q:=cnt_eq fun q _=>by rw[setN_min h1 hs,setN_or,sure_set hsp]
  have e2:cnt (setN (minN seen (n ||| canM d.marks s)))=cnt fun q=>setN seen q&&!(setN n q||canS (mks7 d.marks) s q):=cnt_eq fun q _=>by rw[setN_min hs h2,setN_or,can_set hsp]
  rw[e1,e2]
 unfold agrN AgrP;rw[List.any_eq_true];constructor
 ·rintro⟨n,h1,h2⟩
  unfold birthN at h1;obtain⟨hn,hb⟩:=(memP_is _ _ _).1 h1;obtain⟨k1,k2⟩:=(key n hn).1 h2;exact⟨setN n,i1 n hn hb,k1,k2⟩
 ·rintro⟨f,h1,h2,h3⟩
  obtain⟨y,hy,hb,hq⟩:=i2 f h1;refine⟨y,?_,(key y hy).2 ?_⟩
  ·unfold birthN
   exact(memP_is _ _ _).2 ⟨hy,hb⟩
  ·have e:setN y=f:=funext hq
   rw[e];exact⟨h2,h3⟩
end Go.AM
namespace Go.AM
open Go Go.Proofs
variable[Keep]
def spotI(q:List (Nat×Mk)):List Int:=q.map fun jx=>jx.2.spot
theorem met_ok:∀(q:List (Nat×Mk)) (s:Nat),(∀jx∈q,0 <=jx.2.spot/\jx.2.spot <=7)->
  ((foldS metS q s).2=true↔(spotI q).Nodup/\∀jx∈q,s.testBit jx.2.spot.toNat=false)
 | [],s,_=>by simp[foldS,spotI]
 | a :: q, s, h => by
  have ha:=h a (by simp);have ih:=met_ok q (s ||| 2 ^ a.2.spot.toNat) (fun jx hj=>h jx (by simp[hj]));have e1:spotI (a::q)=a.2.spot::spotI q:=rfl;rw[e1,List.nodup_cons,List.forall_mem_cons];unfold foldS;by_cases hs:s &&& 2 ^ a.2.spot.toNat=0
  ·have hb:s.testBit a.2.spot.toNat=false:=by
    have:=and_pow s a.2.spot.toNat;rw[hs]at this;cases hq:s.testBit a.2.spot.toNat with
    |false=>rfl
    |true=>
     rw[hq,if_pos rfl]at this;have hp:0<2 ^ a.2.spot.toNat:=Nat.two_pow_pos _;omega
   rw[metS_go hs];simp only[if_true];rw[ih];constructor
   ·rintro⟨h1,h2⟩
    refine⟨⟨fun hm=>?_,h1⟩,hb,fun jx hj=>?_⟩
    ·unfold spotI at hm
     obtain⟨jx,hj,he⟩:=List.mem_map.1 hm;have:=h2 jx hj;rw[Nat.testBit_or,Bool.or_eq_false_iff,he,Nat.testBit_two_pow_self]at this;cases this.2
    ·have:=h2 jx hj
     rw[Nat.testBit_or,Bool.or_eq_false_iff]at this;exact this.1
   ·rintro⟨⟨h1,h2⟩,h3,h4⟩
    refine⟨h2,fun jx hj=>?_⟩;rw[Nat.testBit_or,Bool.or_eq_false_iff];refine⟨h4 jx hj,Nat.testBit_two_pow_of_ne fun e=>h1 ?_⟩;have hjx:=h jx (by simp[hj]);have:jx.2.spot=a.2.spot:=by omega
    unfold spotI;exact List.mem_map.2 ⟨jx,hj,this⟩
  ·have hb:s.testBit a.2.spot.toNat=true:=by
    have:=and_pow s a.2.spot.toNat;cases hq:s.testBit a.2.spot.toNat with
    |true=>rfl
    |false=>
     rw[hq,if_neg (by decide)]at this;exact absurd this hs
   rw[metS_no hs];simp only[Bool.false_eq_true,if_false,hb,false_iff,not_and];intro _ h2;cases h2
theorem line_dup{l:List Md}{m:Int}(h:∀jx∈lineM l m,0 <=jx.2.spot/\jx.2.spot <=7):lineOk l m=true↔(spotI (lineM l m)).Nodup:=by
 unfold lineOk;rw[met_ok _ _ h];simp
theorem nodup_next{xs:List Int}{k:Nat}{x:Int}(hx:xs[k]? =some x)(h:(xs.take k).Nodup)(hn:x∉xs.take k):(xs.take (k+1)).Nodup:=by
 rw[take_next hx,List.nodup_append];refine⟨h,by simp,fun a ha b hb e=>?_⟩;rw[List.mem_singleton]at hb;subst hb;subst e;exact hn ha
theorem nodup_no{xs:List Int}{k j:Nat}{x:Int}(hx:xs[k]? =some x)(hy:xs[j]? =some x)(hj:j<k):¬xs.Nodup:=fun h=>by
 obtain⟨h1,e1⟩:=List.getElem?_eq_some_iff.1 hx;obtain⟨h2,e2⟩:=List.getElem?_eq_some_iff.1 hy;exact List.pairwise_iff_getElem.1 h j k h2 h1 hj (by rw[e1,e2])
theorem notin_next{xs:List Int}{j:Nat}{x y:Int}(hy:xs[j]? =some y)(h:x∉xs.take j)(hn:¬y=x):x∉xs.take (j+1):=by
 rw[take_next hy,List.mem_append,List.mem_singleton];rintro(h1|h1)
 ·exact h h1
 ·exact hn h1.symm
def preB(p clo chi:Int)(nm nl:Nat)(n:Int):Bool:=
 inB p (-1) (IntKind.i64.wrap (n - 1))&&spB clo chi 0 36&&!decide (IntKind.i64.wrap (chi - clo)>5)&&!(decide (p<0)&&(chi !=0))&&!decide ((nm:Int)>4)&&inB nl 1 3
theorem md_pre(p clo chi:Int)(ms:List Mk)(ls:List Ln)(n:Int):mdB p clo chi ms ls n=(preB p clo chi ms.length ls.length n&&ms.all (fun x=>!badM x)&&ls.all (fun x=>!badL x)):=by
 unfold mdB preB;have e1:(ms.any badM)=!(ms.all fun x=>!badM x):=by rw[List.any_eq_not_all_not]
 have e2:(ls.any badL)=!(ls.all fun x=>!badL x):=by rw[List.any_eq_not_all_not]
 rw[e1,e2,Bool.not_not,Bool.not_not]
 congr 2
 cases hs:spB clo chi 0 36 with
 |false=>simp
 | true =>
  have hz:(clo==0&&chi==0)=(chi==0):=by
   unfold spB at hs;simp only[Bool.and_eq_true,decide_eq_true_eq]at hs;rw[Bool.eq_iff_iff];simp only[Bool.and_eq_true,beq_iff_eq];omega
  rw[hz];have e3:(!(chi==0))=(chi !=0):=rfl;have e4:decide ((ms.length:Int) <=4)=!decide ((ms.length:Int)>4):=by
   rw[Bool.eq_iff_iff];simp
  rw[e3,e4]
theorem marksA_le{l:List Md}{n:Nat}(hn:n <=maxL)(h:MdsOk l n){j:Nat}(hj:j<n):(marksA l j).length <=4:=by
 unfold marksA;split
 ·rename_i d hd
  exact(mdOk_parts (by omega) (h j d hj hd)).2.2.2.2.2.1
 ·simp
theorem line_len{l:List Md}{n:Nat}(hn:n <=maxL)(h:MdsOk l n)(hl:n <=l.length){m:Int}(h1:-1 <=m)(h3:m<n):(lineM l m).length <=4 * n:=by
 obtain⟨a,b,c⟩:=chn_at (h.wf hn) hl h1 h3;have key:∀q:List Nat,(∀j∈q,j<n)->(q.flatMap fun j=>(marksA l j).map fun x=>(j,x)).length <=4 * q.length:=by
  intro q;induction q with
  |nil=>intro _;simp
  |cons j q ih=>
   intro hq;have h4:=marksA_le hn h (hq j (by simp));have:=ih fun i hi=>hq i (by simp[hi]);rw[List.flatMap_cons,List.length_append,List.length_map,List.length_cons];omega
 unfold lineM;have:=key (chn l m) fun j hj=>by
  obtain⟨k,hk⟩:=List.mem_iff_getElem?.1 hj;have hkl:k<(chn l m).length:=(List.getElem?_eq_some_iff.1 hk).1;have:=a k hkl;rw[hk]at this;have e:=Option.some.inj this.1;omega
 omega
open Go.Mo7 (Mk7 Lv Born hasS sureS canS setN setN_or setN_and setN_bit setN_zero setN_lt setN_ext numS setN_num numS_lt numS_set can_has or_lt SpotOk LineOk RangeOk hasL sureR canR born_some all_sure some_can)
theorem chain_more{l:List Md}(wf:WfP l l.length):∀(f:Nat) (m:Int),-1 <=m->m<f->m<l.length->chainN l f m=chn l m:=by
 intro f;induction f using Nat.strongRecOn with
 | _ f ih =>
  intro m h1 h2 h3;cases f with
  |zero=>
   have hm:m<0:=by omega
   unfold chn chainN;rw[if_pos hm]
  | succ f =>
   unfold chn;unfold chainN;by_cases hm:m<0
   ·rw[if_pos hm,if_pos hm]
   ·rw[if_neg hm,if_neg hm]
    have hu:=up_lt wf (by omega) h3 (Nat.le_refl _);have e1:=ih f (by omega) (upM l m) hu.1 (by omega) (by omega);have e2:=ih m.toNat (by omega) (upM l m) hu.1 (by omega) (by omega);rw[e1,e2]
theorem chn_none(l:List Md){m:Int}(hm:m<0):chn l m=[]:=by
 unfold chn chainN;rw[if_pos hm]
theorem chn_up{l:List Md}(wf:WfP l l.length){j:Nat}{d:Md}(hd:l[j]? =some d):chn l (j:Int)=j::chn l d.parent:=by
 have hjl:=(List.getElem?_eq_some_iff.1 hd).1;have hw:=wf j d hjl hd;have hu:upM l (j:Int)=d.parent:=by unfold upM;rw[Int.toNat_natCast,hd]
 have e:=chain_more wf j d.parent (by omega) hw.2 (by omega)
 conv=>lhs;unfold chn chainN
 rw[if_neg (by omega),hu,Int.toNat_natCast,e]
theorem line_none(l:List Md){m:Int}(hm:m<0):lineM l m=[]:=by
 unfold lineM;rw[chn_none l hm];rfl
theorem line_up{l:List Md}(wf:WfP l l.length){j:Nat}{d:Md}(hd:l[j]? =some d):lineM l (j:Int)=(d.marks.map fun x=>(j,x))++lineM l d.parent:=by
 unfold lineM;rw[chn_up wf hd,List.flatMap_cons]
 congr 1
 unfold marksA;rw[hd]
theorem spot_up{l:List Md}(wf:WfP l l.length){j:Nat}{d:Md}(hd:l[j]? =some d):spotI (lineM l (j:Int))=d.marks.map (fun x=>x.spot)++spotI (lineM l d.parent):=by
 unfold spotI;rw[line_up wf hd,List.map_append,List.map_map];rfl
theorem has_mks{ms:List Mk}(h:spotsOk ms=true)(q:Nat):hasS (mks7 ms) q=true↔(q:Int)∈ms.map (fun x=>x.spot):=by
 unfold hasS mks7;rw[List.any_map,List.any_eq_true,List.mem_map];constructor
 ·rintro⟨x,hx,he⟩
  have hs:=mks_lt8 h;refine⟨x,hx,?_⟩;have he:(x.spot.toNat==q)=true:=he;rw[beq_iff_eq]at he;unfold spotsOk at h;have:=List.all_eq_true.1 h x hx;unfold inB at this;rw[Bool.and_eq_true,decide_eq_true_eq,decide_eq_true_eq]at this;omega
 ·rintro⟨x,hx,he⟩
  refine⟨x,hx,?_⟩;show (x.spot.toNat==q)=true;rw[beq_iff_eq];omega
theorem hasL_is{l:List Md}(h:BkP l)(q:Nat):∀(n j:Nat) (d:Md),j<n->l[j]? =some d->(hasL (lvl l j) q=true↔(q:Int)∈spotI (lineM l d.parent)):=by
 intro n;induction n with
 |zero=>intro j d hj;omega
 | succ n ih =>
  intro j d hj hd;have hjl:=(List.getElem?_eq_some_iff.1 hd).1;have hw:=h.wf j d hjl hd;by_cases hp:d.parent<0
  ·rw[lvl_top hd hp,line_none l hp]
   unfold hasL spotI;simp
  ·rw[lvl_up h.wf hd hp]
   obtain⟨p,hpd⟩:=get_some (l:=l) (k:=d.parent.toNat) (by omega);have hpe:((d.parent.toNat:Nat):Int)=d.parent:=by omega
   have hs:=spot_up h.wf hpd;rw[hpe]at hs;rw[hs,List.mem_append];have e:hasL (⟨mks7 (marksA l d.parent.toNat),d.clo,d.chi⟩::lvl l d.parent.toNat) q=(hasS (mks7 (marksA l d.parent.toNat)) q||hasL (lvl l d.parent.toNat) q):=by
    unfold hasL;rw[List.any_cons]
   rw[e,Bool.or_eq_true,ih d.parent.toNat p (by omega) hpd];have hm:marksA l d.parent.toNat=p.marks:=by unfold marksA;rw[hpd]
   rw[hm,has_mks (h.sp hpd)]
structure BkL(l:List Md):Prop extends BkP l where
 nd:∀j:Nat,j<l.length->(spotI (lineM l (j:Int))).Nodup
theorem bkL_of{b:Bk}(hbk:bookB b=true)(hm:b.moulds.length <=maxL):BkL b.moulds:=by
 have hP:=bkP_of hbk hm;refine { toBkP:=hP,nd:=fun j hj=>?_ };obtain⟨d,hd⟩:=get_some hj;have h2:=hbk;unfold bookB at h2;simp only[Bool.and_eq_true]at h2;have h3:=(bookP_at h2.2 hj hd).2;exact(line_dup fun jx hjx=>line_spot hm (Nat.le_refl _) hP.ok (m:=(j:Int)) (by omega) (by omega) hjx).1 h3
theorem spot_ok{l:List Md}(h:BkL l){j:Nat}{d:Md}(hd:l[j]? =some d):SpotOk (mks7 d.marks):=by
 have hjl:=(List.getElem?_eq_some_iff.1 hd).1;have hsp:=h.sp hd;have hdm:=mdOk_parts (n:=j) (by have:=h.mx;omega) (h.ok j d hjl hd);refine⟨mks_lt8 hsp,?_,fun x hx=>?_⟩
 ·have h1:=h.nd j hjl
  rw[spot_up h.wf hd,List.nodup_append]at h1;have h2:=h1.1;have e:(mks7 d.marks).map Mk7.spot=(d.marks.map fun x=>x.spot).map Int.toNat:=by unfold mks7;rw[List.map_map,List.map_map];rfl
  rw[e];have hall:∀x∈d.marks.map (fun x=>x.spot),0 <=x:=fun x hx=>by
   obtain⟨y,hy,rfl⟩:=List.mem_map.1 hx;unfold spotsOk at hsp;have:=List.all_eq_true.1 hsp y hy;unfold inB at this;rw[Bool.and_eq_true,decide_eq_true_eq,decide_eq_true_eq]at this;exact this.1
  generalize (d.marks.map fun x=>x.spot)=L at *;clear e h1;induction L with
  |nil=>simp
  |cons a L ih=>
   rw[List.nodup_cons]at h2;rw[List.map_cons,List.nodup_cons];refine⟨fun hm=>?_,ih h2.2 fun x hx=>hall x (by simp[hx])⟩;obtain⟨y,hy,he⟩:=List.mem_map.1 hm;have a0:=hall a (by simp);have y0:=hall y (by simp[hy]);have:y=a:=by omega
   exact h2.1 (this▸hy)
 ·unfold mks7 at hx
  obtain⟨y,hy,rfl⟩:=List.mem_map.1 hx;have:=badM_no (hdm.2.2.2.2.2.2.2.1 y hy);exact this.2.2.1
theorem line_ok{l:List Md}(h:BkL l)(s1 s2:Int):∀(n j:Nat) (d:Md),j<n->l[j]? =some d->LineOk (⟨mks7 d.marks,s1,s2⟩::lvl l j)/\LineOk (lvl l j):=by
 intro n;induction n generalizing s1 s2 with
 |zero=>intro j d hj;omega
 | succ n ih =>
  intro j d hj hd;have hjl:=(List.getElem?_eq_some_iff.1 hd).1;have hw:=h.wf j d hjl hd;have hin:LineOk (lvl l j):=by
   by_cases hp:d.parent<0
   ·rw[lvl_top hd hp];exact .nil
   ·rw[lvl_up h.wf hd hp]
    obtain⟨p,hpd⟩:=get_some (l:=l) (k:=d.parent.toNat) (by omega);have hm:marksA l d.parent.toNat=p.marks:=by unfold marksA;rw[hpd]
    rw[hm];exact(ih d.clo d.chi d.parent.toNat p (by omega) hpd).1
  refine⟨.cons (spot_ok h hd) hin fun q=>?_,hin⟩;rw[Bool.and_eq_false_iff];cases h1:hasS (mks7 d.marks) q with
  |false=>exact .inl rfl
  | true =>
   right;cases h2:hasL (lvl l j) q with
   |false=>rfl
   |true=>
    have m1:=(has_mks (h.sp hd) q).1 h1;have m2:=(hasL_is h.toBkP q (j+1) j d (by omega) hd).1 h2;have hn:=h.nd j hjl;rw[spot_up h.wf hd,List.nodup_append]at hn;exact absurd rfl (hn.2.2 _ m1 _ m2)
end Go.AM
namespace Go.AM
open Go Go.Proofs
open Go.Mo7 (Mk7 Lv Born hasS sureS canS setN missM ghostM)
variable[Keep]
def mN(ms:List Mk)(c:Int)(seen k:Nat):Nat:=missM (mks7 (ms.take k)) c (setN seen)
def gN(ms:List Mk)(c:Int)(seen k:Nat):Nat:=ghostM (mks7 (ms.take k)) c (setN seen)
theorem mN_zero(ms:List Mk)(c:Int)(seen:Nat):mN ms c seen 0=0:=rfl
theorem gN_zero(ms:List Mk)(c:Int)(seen:Nat):gN ms c seen 0=0:=rfl
theorem mN_next{ms:List Mk}{k:Nat}{x:Mk}(hx:ms[k]? =some x)(c:Int)(seen:Nat):mN ms c seen (k+1)=if (!seen.testBit x.spot.toNat&&decide (x.hi <=c))=true then mN ms c seen k+1 else mN ms c seen k:=by
 unfold mN missM mks7;rw[take_next hx,List.map_append,List.countP_append,List.map_cons,List.map_nil,List.countP_cons,List.countP_nil];show _+(0+if (!seen.testBit x.spot.toNat&&decide (x.hi <=c))=true then 1 else 0)=_
 split<;>simp
theorem gN_next{ms:List Mk}{k:Nat}{x:Mk}(hx:ms[k]? =some x)(c:Int)(seen:Nat):gN ms c seen (k+1)=if (seen.testBit x.spot.toNat&&decide (x.lo>c))=true then gN ms c seen k+1 else gN ms c seen k:=by
 unfold gN ghostM mks7;rw[take_next hx,List.map_append,List.countP_append,List.map_cons,List.map_nil,List.countP_cons,List.countP_nil];show _+(0+if (seen.testBit x.spot.toNat&&decide (x.lo>c))=true then 1 else 0)=_
 split<;>simp
theorem mN_le(ms:List Mk)(c:Int)(seen k:Nat):mN ms c seen k <=k:=by
 unfold mN missM;refine Nat.le_trans List.countP_le_length ?_;unfold mks7;rw[List.length_map,List.length_take];omega
theorem gN_le(ms:List Mk)(c:Int)(seen k:Nat):gN ms c seen k <=k:=by
 unfold gN ghostM;refine Nat.le_trans List.countP_le_length ?_;unfold mks7;rw[List.length_map,List.length_take];omega
def rdF (l : List Md) (seen : Nat) : Nat -> Nat -> Int -> Nat -> Int -> Int -> Bool
  |0,_,_,_,_,_=>false
  | f + 1, j, lo, n, M, G => match l[j]? with
    |none=>false
    | some d => (List.range n).any fun k =>
      !(decide (((mN d.marks (lo + k) seen d.marks.length : Nat) : Int) > M) || decide (((gN d.marks (lo + k) seen d.marks.length : Nat) : Int) > G)) &&
        (decide (d.parent<0)||rdF l seen f d.parent.toNat d.clo (cutN d) (M - (mN d.marks (lo+k) seen d.marks.length:Nat)) (G - (gN d.marks (lo+k) seen d.marks.length:Nat)))
def rdS (l : List Md) (seen f : Nat) (d : Md) (lo M G : Int) (k : Nat) : Bool :=
  !(decide (((mN d.marks (lo + k) seen d.marks.length : Nat) : Int) > M) || decide (((gN d.marks (lo + k) seen d.marks.length : Nat) : Int) > G)) &&
    (decide (d.parent<0)||rdF l seen f d.parent.toNat d.clo (cutN d) (M - (mN d.marks (lo+k) seen d.marks.length:Nat)) (G - (gN d.marks (lo+k) seen d.marks.length:Nat)))
theorem rdF_succ{l:List Md}{seen f j:Nat}{d:Md}(hd:l[j]? =some d)(lo:Int)(n:Nat)(M G:Int):rdF l seen (f+1) j lo n M G=(List.range n).any (rdS l seen f d lo M G):=by
 conv=>lhs;unfold rdF
 rw[hd];rfl
theorem rd_yes{p:Nat->Bool}{n k:Nat}(hk:k<n)(h:p k=true):(List.range n).any p=true:=by
 rw[List.any_eq_true];exact⟨k,List.mem_range.2 hk,h⟩
theorem rd_no{p:Nat->Bool}{n:Nat}(h:∀k,k<n->p k=false):(List.range n).any p=false:=by
 rw[List.any_eq_false];intro k hk;rw[h k (List.mem_range.1 hk)]
 decide
theorem mN_all(ms:List Mk)(c:Int)(seen:Nat):mN ms c seen ms.length=missM (mks7 ms) c (setN seen):=by unfold mN;rw[List.take_length]
theorem gN_all(ms:List Mk)(c:Int)(seen:Nat):gN ms c seen ms.length=ghostM (mks7 ms) c (setN seen):=by unfold gN;rw[List.take_length]
theorem rd_is{l:List Md}(h:BkP l)(seen:Nat):∀(f j:Nat) (d:Md),j<f->l[j]? =some d->∀(lo:Int) (n:Nat) (M G:Int),
  (rdF l seen f j lo n M G=true↔Go.Mo7.Reads (setN seen) (⟨mks7 d.marks,lo,lo+n - 1⟩::lvl l j) M G):=by
 intro f;induction f with
 |zero=>intro j d hj;omega
 | succ f ih =>
  intro j d hj hd lo n M G;have hjl:=(List.getElem?_eq_some_iff.1 hd).1;have hw:=h.wf j d hjl hd;have hdm:=mdOk_parts (n:=j) (by have:=h.mx;omega) (h.ok j d hjl hd);rw[rdF_succ hd,List.any_eq_true];have hcn:((cutN d:Nat):Int)=d.chi - d.clo+1:=by unfold cutN;omega
  have hin:∀M' G',(d.parent<0->(Go.Mo7.Reads (setN seen) (lvl l j) M' G'↔0 <=M'/\0 <=G'))/\(¬d.parent<0->(Go.Mo7.Reads (setN seen) (lvl l j) M' G'↔rdF l seen f d.parent.toNat d.clo (cutN d) M' G'=true)):=fun M' G'=>by
   constructor
   ·intro hp
    rw[lvl_top hd hp];constructor
    ·intro hr;exact hr.pos
    ·intro hr;exact .nil hr.1 hr.2
   ·intro hp
    obtain⟨p,hpd⟩:=get_some (l:=l) (k:=d.parent.toNat) (by omega);have hm:marksA l d.parent.toNat=p.marks:=by unfold marksA;rw[hpd]
    rw[ih d.parent.toNat p (by omega) hpd d.clo (cutN d) M' G',lvl_up h.wf hd hp,hm];rw[show d.clo+((cutN d:Nat):Int) - 1=d.chi by omega]
  constructor
  ·rintro⟨k,hk,hs⟩
   have hkn:=List.mem_range.1 hk;unfold rdS at hs;rw[Bool.and_eq_true,Bool.not_eq_true',Bool.or_eq_false_iff,decide_eq_false_iff_not,decide_eq_false_iff_not,Bool.or_eq_true,decide_eq_true_eq]at hs;obtain⟨⟨s1,s2⟩,s3⟩:=hs;rw[mN_all,gN_all]at *;refine .cons (c:=lo+k) (by simp only;omega) (by simp only;omega) ?_;by_cases hp:d.parent<0
   ·exact((hin _ _).1 hp).2 ⟨by simp only;omega,by simp only;omega⟩
   ·exact((hin _ _).2 hp).2 (s3.resolve_left hp)
  ·intro hr
   cases hr with
   |cons g1 g2 hr=>
    rename_i c;simp only at g1 g2 hr;refine⟨(c - lo).toNat,List.mem_range.2 (by omega),?_⟩;have hc:lo+(((c - lo).toNat:Nat):Int)=c:=by omega
    have hpos:=hr.pos;unfold rdS;rw[hc,mN_all,gN_all,Bool.and_eq_true,Bool.not_eq_true',Bool.or_eq_false_iff,decide_eq_false_iff_not,decide_eq_false_iff_not,Bool.or_eq_true,decide_eq_true_eq];refine⟨⟨by omega,by omega⟩,?_⟩;by_cases hp:d.parent<0
    ·exact .inl hp
    ·exact .inr (((hin _ _).2 hp).1 hr)
end Go.AM
namespace Go.AM
open Go Go.Proofs
variable[Keep]
attribute [local irreducible] W WO WO1 WD WQ WT thenQ blockQ endR isRet retK Cl ClR
section
attribute [local irreducible] mN gN rdF rdS
section
variable{c:Itr}
theorem C106 (hc : c 106 = none) (h133 : (dX c).intr 133 = some (pureFn sp133)) (mi gh : Int) (sa : AV) (l : List Md) (hm : MdsV sa l) (hP : BkP l) (seen : Nat) (hs : seen < 256) :
  ∀(f j:Nat) (d:Md),j<f->l[j]? =some d->∀(lo hi:Int) (n:Nat) (M G:Int) (h:Heap),hi=lo+n - 1->(0 <=lo/\lo+n <=100)->(-10 <=M/\M <=10)->(-10 <=G/\G <=10)->
   Cl (dX c) 106 [.agg [.int .i64 mi,.int .i64 gh,sa],.int .i64 (j:Int),.int .i64 lo,.int .i64 hi,.int .i64 (seen:Int),.int .i64 M,.int .i64 G] h (.ret (.bool (rdF l seen f j lo n M G)) h none)
 |0,j,d,hj,_,_,_,_,_,_,_,_,_,_,_=>absurd hj (Nat.not_lt_zero _)
 | f + 1, j, d, hj, hd, lo, hi, n, M, G, h, hhi, hlo, hM, hG => by
  refine ClR.cl ?_;have os:=hm.out;have hjl:=(List.getElem?_eq_some_iff.1 hd).1;have hw:=hP.wf j d hjl hd;have hdm:=mdOk_parts (n:=j) (by have:=hP.mx;omega) (hP.ok j d hjl hd);obtain⟨ma,la,v1,v2,hix⟩:=hm.elem j d hd;have om:=sl_out v1;have ol:=sl_out v2;have lm1:=sl_len v1;have mm:=sl_max v1;have hsp:=hP.sp hd;have h4:d.marks.length <=4:=hdm.2.2.2.2.2.1;have hcn:((cutN d:Nat):Int)=d.chi - d.clo+1:=by unfold cutN;omega
  have hcc:(0 <=d.clo/\d.clo <=d.chi/\d.chi <=36)/\d.chi - d.clo <=5:=⟨hdm.2.2.1,hdm.2.2.2.1⟩;have hrd:=rdF_succ (seen:=seen) (f:=f) hd lo n M G;have kk:∀(M' G':Int),¬d.parent<0->(-10 <=M'/\M' <=10)->(-10 <=G'/\G' <=10)->∀h,Cl (dX c) 106 [.agg [.int .i64 mi,.int .i64 gh,sa],.int .i64 d.parent,.int .i64 d.clo,.int .i64 d.chi,.int .i64 (seen:Int),.int .i64 M',.int .i64 G'] h (.ret (.bool (rdF l seen f d.parent.toNat d.clo (cutN d) M' G')) h none):=fun M' G' hp hM' hG' h=>by
   obtain⟨p,hpd⟩:=get_some (l:=l) (k:=d.parent.toNat) (by omega);have:=C106 hc h133 mi gh sa l hm hP seen hs f d.parent.toNat p (by omega) hpd d.clo d.chi (cutN d) M' G' h (by omega) (by omega) hM' hG';rw[show ((d.parent.toNat:Nat):Int)=d.parent by omega]at this;exact this
  have KK:=J1 kk;have K133':=J1 (fun(q:Nat) (hq:q <=60) (h:Heap)=>K133 (X:=dX c) h133 seen q (by omega) hq h);have HV1:=J1 v1;have HSP:=J1 hsp;have HHI:=J1 hhi;have HLO:=J1 hlo;have HMB:=J1 hM;have HGB:=J1 hG;have H4:=J1 h4;have hno0:∀i,i<0->rdS l seen f d lo M G i=false:=fun i hi=>absurd hi (Nat.not_lt_zero _);have HNO0:=J1 hno0;rw[hrd];clear hm hd v1 v2 hsp hhi hlo hM hG hw hjl hj hdm hcn hcc hrd kk h4 hno0;refine ClR.walk (c:=_) hc Tryz.func106 rfl (by kernel_rfl) rfl (fun e=>by cases e) ?_
  try simp only[entryEnv,Nat.reduceAdd,List.nil_append,List.cons_append,emptyHp]
  repeat' (first|refine goS ?_|(refine go2 ?_ ?_<;>intro hh)|fail)
  refine W.loopH (n) [3,4,5,6,7,15] [7,15] (fun k e lm=>e.get 16=some (.int .i64 (lo+(k:Int)))/\∀i,i<k->rdS l seen f d lo M G i=false) ?_ ?_
  ·skip
   refine⟨?_,HNO0.out⟩;simp[go_sem, *]
  intro k e lm hk0 hce hcl hinv;simp only[keepE,and_true]at hce;obtain⟨c3,c4,c5,c6,c7,c15⟩:=hce;simp only[go_sem, *,Nat.reduceBEq,Nat.reduceEqDiff,reduceIte]at c3 c4 c5 c6 c7 c15;simp only[keepL,and_true]at hcl;obtain⟨d7,d15⟩:=hcl;simp only[go_sem, *,Nat.reduceBEq,Nat.reduceEqDiff,reduceIte]at d7 d15;obtain⟨h16,hno⟩:=hinv;by_cases hlt:k<n
  ·have hd0 := dT hlt
   have hv_0:=wrap_succ hlt (by have:=HLO.out;unfold maxL;omega);have hle:decide (lo+(k:Int) <=hi)=true:=by simp only[decide_eq_true_eq];have:=HHI.out;omega
   have hw1:IntKind.i64.wrap (lo+(k:Int)+1)=lo+((k+1:Nat):Int):=by
    rw[wrap_small (by have:=HLO.out;omega) (by have:=HLO.out;omega)];omega
   have HNO:=J1 hno;have HLT0:=J1 hlt;have hm0:=mN_zero d.marks (lo+(k:Int)) seen;have hg0:=gN_zero d.marks (lo+(k:Int)) seen;have HM0:=J1 hm0;have HG0:=J1 hg0;have hrs:rdS l seen f d lo M G k=(!(decide (((mN d.marks (lo+(k:Int)) seen d.marks.length:Nat):Int)>M)||decide (((gN d.marks (lo+(k:Int)) seen d.marks.length:Nat):Int)>G))&&(decide (d.parent<0)||rdF l seen f d.parent.toNat d.clo (cutN d) (M - (mN d.marks (lo+(k:Int)) seen d.marks.length:Nat)) (G - (gN d.marks (lo+(k:Int)) seen d.marks.length:Nat)))):=by unfold rdS;rfl
   have HRS:=J1 hrs;clear hno hlt hm0 hg0 hrs;repeat' (first|refine goS ?_|(refine go2 ?_ ?_<;>intro hh)|fail)
   refine W.loopH (d.marks.length) [3,4,5,6,7,15,16] [7,15] (fun t e1 lm1=>e1.get 19=some (.int .i64 ↑t)/\e1.get 17=some (.int .i64 ((mN d.marks (lo+(k:Int)) seen t:Nat):Int))/\e1.get 18=some (.int .i64 ((gN d.marks (lo+(k:Int)) seen t:Nat):Int))) ?_ ?_
   ·skip
    refine⟨?_,?_,?_⟩
    ·simp[go_sem, *]
    ·rw[HM0.out];simp[go_sem, *]
    ·rw[HG0.out];simp[go_sem, *]
   intro t e1 lm1 hk1 hce hcl hinv;simp only[keepE,and_true]at hce;obtain⟨c3,c4,c5,c6,c7,c15,c16⟩:=hce;simp only[go_sem, *,Nat.reduceBEq,Nat.reduceEqDiff,reduceIte]at c3 c4 c5 c6 c7 c15 c16;simp only[keepL,and_true]at hcl;obtain⟨d7,d15⟩:=hcl;simp only[go_sem, *,Nat.reduceBEq,Nat.reduceEqDiff,reduceIte]at d7 d15;obtain⟨h19,h17,h18⟩:=hinv;by_cases hjt:t<d.marks.length
   ·have hd1:=dT hjt
    have hv_1:=wrap_succ hjt mm;obtain⟨x,hx⟩:=get_some hjt;have hix2:=fun H=>mks_idx HV1.out hx H;have hs8:0 <=x.spot/\x.spot <=7:=by
     have:=List.all_eq_true.1 HSP.out x (List.mem_of_getElem? hx);unfold inB at this;rw[Bool.and_eq_true,decide_eq_true_eq,decide_eq_true_eq]at this;exact this
    have k133:=K133'.out x.spot.toNat (by omega);have hse:((x.spot.toNat:Nat):Int)=x.spot:=by omega
    rw[hse]at k133;have hn1:=mN_next hx (lo+(k:Int)) seen;have hn2:=gN_next hx (lo+(k:Int)) seen;have b1:=mN_le d.marks (lo+(k:Int)) seen t;have b2:=gN_le d.marks (lo+(k:Int)) seen t;have w1:IntKind.i64.wrap (((mN d.marks (lo+(k:Int)) seen t:Nat):Int)+1)=((mN d.marks (lo+(k:Int)) seen t+1:Nat):Int):=by
     rw[wrap_small (by omega) (by have:=H4.out;omega)];omega
    have w2:IntKind.i64.wrap (((gN d.marks (lo+(k:Int)) seen t:Nat):Int)+1)=((gN d.marks (lo+(k:Int)) seen t+1:Nat):Int):=by
     rw[wrap_small (by omega) (by have:=H4.out;omega)];omega
    obtain⟨g20,hg20⟩:∃gg,nextGen lm1 20=gg:=⟨_,rfl⟩;unfold nextGen at hg20;have HN1:=J1 hn1;have HN2:=J1 hn2;have HLT1:=J1 hjt;clear hx hs8 hse hn1 hn2 b1 b2 hjt;cases hb:seen.testBit x.spot.toNat with
    | true =>
     rw[hb]at k133;have n1:=HN1.out;rw[hb]at n1;simp only[Bool.not_true,Bool.false_and,Bool.false_eq_true,if_false]at n1;have HM1:=J1 n1;cases e2:decide (x.lo>lo+(k:Int))with
     |true=>
      have n2:=HN2.out;rw[hb,e2]at n2;simp only[Bool.and_self,if_true]at n2;have HM2:=J1 n2;clear n1 n2 hb;repeat' (first|refine goS ?_|refine uJ (k133 _) ?_|(refine go2 ?_ ?_<;>intro hh)|fail)
      all_goals refine contH_mk (by first|assumption|exact HLT1.out|exact HLT0.out) J7 J8 ?_
      all_goals refine⟨?_,?_,?_⟩
      all_goals first|exact Z2|skip
      all_goals first|(rw[HM1.out];simp only[go_sem, *,Nat.reduceLT,Int.reduceEq,Int.reduceBEq,Int.reduceLE,Int.reduceLT,Nat.reduceAdd,Nat.reduceBEq,Nat.reduceEqDiff,reduceIte,Nat.reduceLeDiff,Nat.reduceMul,Nat.reduceSub,reduceCtorEq];done)|(rw[HM2.out];simp only[go_sem, *,Nat.reduceLT,Int.reduceEq,Int.reduceBEq,Int.reduceLE,Int.reduceLT,Nat.reduceAdd,Nat.reduceBEq,Nat.reduceEqDiff,reduceIte,Nat.reduceLeDiff,Nat.reduceMul,Nat.reduceSub,reduceCtorEq];done)
     |false=>
      have n2:=HN2.out;rw[hb,e2]at n2;simp only[Bool.and_false,Bool.false_eq_true,if_false]at n2;have HM2:=J1 n2;clear n1 n2 hb;repeat' (first|refine goS ?_|refine uJ (k133 _) ?_|(refine go2 ?_ ?_<;>intro hh)|fail)
      all_goals refine contH_mk (by first|assumption|exact HLT1.out|exact HLT0.out) J7 J8 ?_
      all_goals refine⟨?_,?_,?_⟩
      all_goals first|exact Z2|skip
      all_goals first|(rw[HM1.out];simp only[go_sem, *,Nat.reduceLT,Int.reduceEq,Int.reduceBEq,Int.reduceLE,Int.reduceLT,Nat.reduceAdd,Nat.reduceBEq,Nat.reduceEqDiff,reduceIte,Nat.reduceLeDiff,Nat.reduceMul,Nat.reduceSub,reduceCtorEq];done)|(rw[HM2.out];simp only[go_sem, *,Nat.reduceLT,Int.reduceEq,Int.reduceBEq,Int.reduceLE,Int.reduceLT,Nat.reduceAdd,Nat.reduceBEq,Nat.reduceEqDiff,reduceIte,Nat.reduceLeDiff,Nat.reduceMul,Nat.reduceSub,reduceCtorEq];done)
    | false =>
     rw[hb]at k133;have n2:=HN2.out;rw[hb]at n2;simp only[Bool.false_and,Bool.false_eq_true,if_false]at n2;have HM2:=J1 n2;cases e2:decide (x.hi <=lo+(k:Int))with
     |true=>
      have n1:=HN1.out;rw[hb,e2]at n1;simp only[Bool.not_false,Bool.and_self,if_true]at n1;have HM1:=J1 n1;clear n1 n2 hb;repeat' (first|refine goS ?_|refine uJ (k133 _) ?_|(refine go2 ?_ ?_<;>intro hh)|fail)
      all_goals refine contH_mk (by first|assumption|exact HLT1.out|exact HLT0.out) J7 J8 ?_
      all_goals refine⟨?_,?_,?_⟩
      all_goals first|exact Z2|skip
      all_goals first|(rw[HM1.out];simp only[go_sem, *,Nat.reduceLT,Int.reduceEq,Int.reduceBEq,Int.reduceLE,Int.reduceLT,Nat.reduceAdd,Nat.reduceBEq,Nat.reduceEqDiff,reduceIte,Nat.reduceLeDiff,Nat.reduceMul,Nat.reduceSub,reduceCtorEq];done)|(rw[HM2.out];simp only[go_sem, *,Nat.reduceLT,Int.reduceEq,Int.reduceBEq,Int.reduceLE,Int.reduceLT,Nat.reduceAdd,Nat.reduceBEq,Nat.reduceEqDiff,reduceIte,Nat.reduceLeDiff,Nat.reduceMul,Nat.reduceSub,reduceCtorEq];done)
     |false=>
      have n1:=HN1.out;rw[hb,e2]at n1;simp only[Bool.and_false,Bool.false_eq_true,if_false]at n1;have HM1:=J1 n1;clear n1 n2 hb;repeat' (first|refine goS ?_|refine uJ (k133 _) ?_|(refine go2 ?_ ?_<;>intro hh)|fail)
      all_goals refine contH_mk (by first|assumption|exact HLT1.out|exact HLT0.out) J7 J8 ?_
      all_goals refine⟨?_,?_,?_⟩
      all_goals first|exact Z2|skip
      all_goals first|(rw[HM1.out];simp only[go_sem, *,Nat.reduceLT,Int.reduceEq,Int.reduceBEq,Int.reduceLE,Int.reduceLT,Nat.reduceAdd,Nat.reduceBEq,Nat.reduceEqDiff,reduceIte,Nat.reduceLeDiff,Nat.reduceMul,Nat.reduceSub,reduceCtorEq];done)|(rw[HM2.out];simp only[go_sem, *,Nat.reduceLT,Int.reduceEq,Int.reduceBEq,Int.reduceLE,Int.reduceLT,Nat.reduceAdd,Nat.reduceBEq,Nat.reduceEqDiff,reduceIte,Nat.reduceLeDiff,Nat.reduceMul,Nat.reduceSub,reduceCtorEq];done)
   ·have hd1:=dF hjt
    obtain rfl:t=d.marks.length:=by omega
    have hstep:rdS l seen f d lo M G k=false->∀i,i<k+1->rdS l seen f d lo M G i=false:=fun e i hi=>by
     by_cases q:i=k
     ·subst q;exact e
     ·exact HNO.out i (by omega)
    have HST:=J1 hstep;have b1:=mN_le d.marks (lo+(k:Int)) seen d.marks.length;have b2:=gN_le d.marks (lo+(k:Int)) seen d.marks.length;have b3:=H4.out;have b4:=HMB.out;have b5:=HGB.out;have HRS2:=J1 HRS.out;clear hstep HRS;generalize mN d.marks (lo+(k:Int)) seen d.marks.length=A at *;generalize gN d.marks (lo+(k:Int)) seen d.marks.length=B at *;cases e1:decide ((A:Int)>M)with
    |true=>
     have hz:=HST.out (by rw[HRS2.out,e1];rfl);have HZ:=J1 hz;clear hz b1 b2 b3 b4 b5;repeat' (first|refine gJ ?_|refine go1 ?_|(refine go2 ?_ ?_<;>intro hh)|fail)
     all_goals refine contH_mk J9 J7 J8 ?_
     all_goals refine⟨?_,?_⟩
     all_goals first|exact Z2|skip
     all_goals exact HZ.out
    | false =>
     cases e2:decide ((B:Int)>G)with
     |true=>
      have hz:=HST.out (by rw[HRS2.out,e1,e2];rfl);have HZ:=J1 hz;clear hz b1 b2 b3 b4 b5;repeat' (first|refine gJ ?_|refine go1 ?_|(refine go2 ?_ ?_<;>intro hh)|fail)
      all_goals refine contH_mk J9 J7 J8 ?_
      all_goals refine⟨?_,?_⟩
      all_goals first|exact Z2|skip
      all_goals exact HZ.out
     | false =>
      cases e3:decide (d.parent<0)with
      |true=>
       have hfin:(List.range n).any (rdS l seen f d lo M G)=true:=rd_yes HLT0.out (by rw[HRS2.out,e1,e2,e3];rfl);rw[hfin];clear hfin b1 b2 b3 b4 b5;repeat' (first|refine gJ ?_|refine go1 ?_|(refine go2 ?_ ?_<;>intro hh)|fail)
       all_goals (simp only[rV Tryz.func106,Tryz.results106];first|exact J5|refine J6 ?_)
       all_goals rfl
      | false =>
       have hp:¬d.parent<0:=by simpa using e3
       have a1:(A:Int) <=M:=by simpa using e1
       have a2:(B:Int) <=G:=by simpa using e2
       have k106:=KK.out (M - (A:Int)) (G - (B:Int)) hp (by omega) (by omega);have w1:IntKind.i64.wrap (M - (A:Int))=M - (A:Int):=wrap_small (by omega) (by omega);have w2:IntKind.i64.wrap (G - (B:Int))=G - (B:Int):=wrap_small (by omega) (by omega);cases hr:rdF l seen f d.parent.toNat d.clo (cutN d) (M - (A:Int)) (G - (B:Int))with
       |true=>
        rw[hr]at k106;have hfin:(List.range n).any (rdS l seen f d lo M G)=true:=rd_yes HLT0.out (by rw[HRS2.out,e1,e2,e3,hr];rfl);rw[hfin];clear hfin b1 b2 b3 b4 b5 hp a1 a2 hr;repeat' (first|refine gJ ?_|refine go1 ?_|refine uJ (k106 _) ?_|(refine go2 ?_ ?_<;>intro hh)|fail)
        all_goals (simp only[rV Tryz.func106,Tryz.results106];first|exact J5|refine J6 ?_)
        all_goals rfl
       |false=>
        rw[hr]at k106;have hz:=HST.out (by rw[HRS2.out,e1,e2,e3,hr];rfl);have HZ:=J1 hz;clear hz b1 b2 b3 b4 b5 hp a1 a2 hr;repeat' (first|refine gJ ?_|refine go1 ?_|refine uJ (k106 _) ?_|(refine go2 ?_ ?_<;>intro hh)|fail)
        all_goals refine contH_mk J9 J7 J8 ?_
        all_goals refine⟨?_,?_⟩
        all_goals first|exact Z2|skip
        all_goals exact HZ.out
  ·have hd0:=dF hlt
   obtain rfl:k=n:=by omega
   have hle:decide (lo+(k:Int) <=hi)=false:=by simp only[decide_eq_false_iff_not];have:=HHI.out;omega
   rw[rd_no hno];clear hno;repeat' (first|refine goS ?_|(refine go2 ?_ ?_<;>intro hh)|fail)
   all_goals (simp only[rV Tryz.func106,Tryz.results106];first|exact J5|refine J6 ?_)
   all_goals rfl
end
end
section
open Go.Mo7 (setN cnt cnt_eq hasS hasL strangeL Lv)
attribute [local irreducible] spotL spotI lineM
def stN(xs:List Int)(seen:Nat)(k:Nat):Nat:=(List.range k).countP fun q=>seen.testBit q&&!decide ((q:Int)∈xs)
theorem stN_zero(xs:List Int)(seen:Nat):stN xs seen 0=0:=rfl
theorem stN_next(xs:List Int)(seen k:Nat):stN xs seen (k+1)=if (seen.testBit k&&!decide ((k:Int)∈xs))=true then stN xs seen k+1 else stN xs seen k:=by
 unfold stN;rw[List.range_succ,List.countP_append,List.countP_cons,List.countP_nil];split<;>rename_i h<;>simp[h]
theorem stN_le(xs:List Int)(seen:Nat):∀k,stN xs seen k <=k:=fun k=>by
 unfold stN;have:=List.countP_le_length (p:=fun q=>seen.testBit q&&!decide ((q:Int)∈xs)) (l:=List.range k);simpa using this
def inL(xs:List Int)(q:Int)(j:Nat):Bool:=decide (q∈xs.take j)
theorem inL_next{xs:List Int}{j:Nat}{y:Int}(hy:xs[j]? =some y)(q:Int):inL xs q (j+1)=(inL xs q j||(y==q)):=by
 unfold inL;rw[take_next hy,Bool.eq_iff_iff];simp only[List.mem_append,List.mem_singleton,Bool.or_eq_true,decide_eq_true_eq,beq_iff_eq];constructor
 ·rintro(h|h)
  ·exact .inl h
  ·exact .inr h.symm
 ·rintro(h|h)
  ·exact .inl h
  ·exact .inr h.symm
theorem inL_zero(xs:List Int)(q:Int):inL xs q 0=false:=by unfold inL;simp
theorem inL_all(xs:List Int)(q:Int):inL xs q xs.length=decide (q∈xs):=by unfold inL;rw[List.take_length]
attribute [local irreducible] stN inL
section
variable{c:Itr}
theorem C105(hc:c 105=none)(hc1:c 109=none)(hc2:c 144=none)(h133:(dX c).intr 133=some (pureFn sp133))(mi gh:Int)(sa:AV)(l:List Md)(hm:MdsV sa l)(n:Nat)(wf:WfP l n)(hl:n <=l.length)(m:Int)(h1:-1 <=m)(h3:m<n)(hb:(lineM l m).length <=60000)(seen:Nat)(hs:seen<256)(h:Heap) :
  ClR (dX c) 105 [.agg [.int .i64 mi,.int .i64 gh,sa],.int .i64 m,.int .i64 (seen:Int)] h (valR (.int .i64 ((stN (spotI (lineM l m)) seen 8:Nat):Int)) h):=by
 have os:=hm.out;have k109:=C109 (c:=c) hc1 hc2 mi gh sa l hm n wf hl m h1 h3 (by omega) h;unfold ClR at k109;obtain⟨r,k109,⟨bn,bm⟩,v,hx1,rfl,hB⟩:=k109;have hse:spotL (lineM l m)=intsE (spotI (lineM l m)):=by unfold spotL spotI;rfl
 rw[hse]at hB;have hxl:(spotI (lineM l m)).length <=60000:=by unfold spotI;rw[List.length_map];exact hb
 generalize spotI (lineM l m)=xs at *;have vo:=hB.blt.out;have vl:=hB.blt.len;have vc:=hB.blt.cells;have vt:=hB.blt.tup;rw[intsE_len]at vl;simp only[AV.cells]at vc;simp only[isTuple]at vt;have HB:=J1 hB;have HX1:=J1 hx1;have HXL:=J1 hxl;have HK:=J1 (fun(k:Nat) (hk:k <=60) (h:Heap)=>K133 (X:=dX c) h133 seen k (by omega) hk h);have HZ:=J1 (stN_zero xs seen);clear hm hse hxl hB hx1 hb h1 h3;refine ClR.walk (c:=_) hc Tryz.func105 rfl (by kernel_rfl) rfl valR_fail ?_
 try simp only[entryEnv,Nat.reduceAdd,List.nil_append,List.cons_append,emptyHp]
 repeat' (first|refine goS ?_|refine uJ k109 ?_|(refine go2 ?_ ?_<;>intro hh)|fail)
 refine W.loopH (8) [2,8] [] (fun k e lm=>e.get 9=some (.int .i64 ↑k)/\e.get 7=some (.int .i64 ((stN xs seen k:Nat):Int))) ?_ ?_
 ·skip
  refine⟨?_,?_⟩
  ·simp[go_sem, *]
  ·rw[HZ.out];simp[go_sem, *]
 intro k e lm hk0 hce hcl hinv;simp only[keepE,and_true]at hce;obtain⟨c2,c8⟩:=hce;simp only[go_sem, *,Nat.reduceBEq,Nat.reduceEqDiff,reduceIte]at c2 c8;clear hcl;obtain⟨h9,h7⟩:=hinv;by_cases hlt:k<8
 ·have hd0:=dT hlt
  have hv_0:=wrap_succ hlt (by unfold maxL;omega);have hd00:decide ((k:Int)<8)=true:=by simp only[decide_eq_true_eq];omega
  have k133:=HK.out k (by omega);have hz0:=inL_zero xs (k:Int);have HZ0:=J1 hz0;have hnx:=stN_next xs seen k;have HNX:=J1 hnx;have hle:=stN_le xs seen k;have hw1:IntKind.i64.wrap (((stN xs seen k:Nat):Int)+1)=((stN xs seen k+1:Nat):Int):=by
   rw[wrap_small (by omega) (by omega)];omega
  have HLT0:=J1 hlt;clear hz0 hnx hle hlt;repeat' (first|refine goS ?_|(refine go2 ?_ ?_<;>intro hh)|fail)
  refine W.loopH (xs.length) [2,7,8,9] [] (fun j e1 lm1=>e1.get 11=some (.int .i64 ↑j)/\e1.get 10=some (.bool (inL xs (k:Int) j))) ?_ ?_
  ·skip
   refine⟨?_,?_⟩
   ·simp[go_sem, *]
   ·rw[HZ0.out];simp[go_sem, *]
  intro j e1 lm1 hk1 hce hcl hinv;simp only[keepE,and_true]at hce;obtain⟨c2,c7,c8,c9⟩:=hce;simp only[go_sem, *,Nat.reduceBEq,Nat.reduceEqDiff,reduceIte]at c2 c7 c8 c9;clear hcl;obtain⟨h11,h10⟩:=hinv;by_cases hjt:j<xs.length
  ·have hd1:=dT hjt
   have hv_1:=wrap_succ hjt (by have:=HXL.out;unfold maxL;omega);obtain⟨y,hy⟩:=get_some hjt;have hay:(intsE xs)[j]? =some (.int .i64 y):=by unfold intsE;rw[List.getElem?_map,hy];rfl
   obtain⟨id,e1,e2,_,_⟩:=bltN_at HB.out hay;simp only[hp_get]at e2;have hri:=rw_idx (H:=⟨bn,bm⟩) e2 hay;rw[<-e1]at hri;have hin:=inL_next hy (k:Int);have HIN:=J1 hin;have HLT1:=J1 hjt;clear hy hin hjt e1;cases hq:inL xs (k:Int) j with
   |true=>
    rw[hq]at h10;have hnn:inL xs (k:Int) (j+1)=true:=by rw[HIN.out,hq];rfl
    have HNN:=J1 hnn;clear hnn hq;repeat' (first|refine goS ?_|(refine go2 ?_ ?_<;>intro hh)|fail)
    all_goals refine contH_mk (by first|assumption|exact HLT1.out|exact HLT0.out) J7 J8 ?_
    all_goals refine⟨?_,?_⟩
    all_goals first|exact Z2|skip
    all_goals (rw[HNN.out];simp only[go_sem, *,Nat.reduceLT,Int.reduceEq,Int.reduceBEq,Int.reduceLE,Int.reduceLT,Nat.reduceAdd,Nat.reduceBEq,Nat.reduceEqDiff,reduceIte,Nat.reduceLeDiff,Nat.reduceMul,Nat.reduceSub,reduceCtorEq])
   |false=>
    rw[hq]at h10;have hnn:inL xs (k:Int) (j+1)=(y==(k:Int)):=by rw[HIN.out,hq];rfl
    have HNN:=J1 hnn;clear hnn hq;repeat' (first|refine goS ?_|(refine go2 ?_ ?_<;>intro hh)|fail)
    all_goals refine contH_mk (by first|assumption|exact HLT1.out|exact HLT0.out) J7 J8 ?_
    all_goals refine⟨?_,?_⟩
    all_goals first|exact Z2|skip
    all_goals (rw[HNN.out];simp only[go_sem, *,Nat.reduceLT,Int.reduceEq,Int.reduceBEq,Int.reduceLE,Int.reduceLT,Nat.reduceAdd,Nat.reduceBEq,Nat.reduceEqDiff,reduceIte,Nat.reduceLeDiff,Nat.reduceMul,Nat.reduceSub,reduceCtorEq])
  ·have hd1:=dF hjt
   obtain rfl:j=xs.length:=by omega
   rw[inL_all]at h10;cases hq:decide ((k:Int)∈xs)with
   | true =>
    rw[hq]at h10;have hnn:stN xs seen (k+1)=stN xs seen k:=by rw[HNX.out,hq];simp
    have HNN:=J1 hnn;clear hnn hq;cases hb:seen.testBit k with
    |true=>
     rw[hb]at k133;clear hb;repeat' (first|refine goS ?_|refine uJ (k133 _) ?_|(refine go2 ?_ ?_<;>intro hh)|fail)
     all_goals refine contH_mk J9 J7 J8 ?_
     all_goals refine⟨?_,?_⟩
     all_goals first|exact Z2|skip
     all_goals (rw[HNN.out];simp only[go_sem, *,Nat.reduceLT,Int.reduceEq,Int.reduceBEq,Int.reduceLE,Int.reduceLT,Nat.reduceAdd,Nat.reduceBEq,Nat.reduceEqDiff,reduceIte,Nat.reduceLeDiff,Nat.reduceMul,Nat.reduceSub,reduceCtorEq])
    |false=>
     rw[hb]at k133;clear hb;repeat' (first|refine goS ?_|refine uJ (k133 _) ?_|(refine go2 ?_ ?_<;>intro hh)|fail)
     all_goals refine contH_mk J9 J7 J8 ?_
     all_goals refine⟨?_,?_⟩
     all_goals first|exact Z2|skip
     all_goals (rw[HNN.out];simp only[go_sem, *,Nat.reduceLT,Int.reduceEq,Int.reduceBEq,Int.reduceLE,Int.reduceLT,Nat.reduceAdd,Nat.reduceBEq,Nat.reduceEqDiff,reduceIte,Nat.reduceLeDiff,Nat.reduceMul,Nat.reduceSub,reduceCtorEq])
   | false =>
    rw[hq]at h10;cases hb:seen.testBit k with
    |true=>
     have hnn:stN xs seen (k+1)=stN xs seen k+1:=by rw[HNX.out,hq,hb];simp
     have HNN:=J1 hnn;rw[hb]at k133;clear hnn hq hb;repeat' (first|refine goS ?_|refine uJ (k133 _) ?_|(refine go2 ?_ ?_<;>intro hh)|fail)
     all_goals refine contH_mk J9 J7 J8 ?_
     all_goals refine⟨?_,?_⟩
     all_goals first|exact Z2|skip
     all_goals (rw[HNN.out];simp only[go_sem, *,Nat.reduceLT,Int.reduceEq,Int.reduceBEq,Int.reduceLE,Int.reduceLT,Nat.reduceAdd,Nat.reduceBEq,Nat.reduceEqDiff,reduceIte,Nat.reduceLeDiff,Nat.reduceMul,Nat.reduceSub,reduceCtorEq])
    |false=>
     have hnn:stN xs seen (k+1)=stN xs seen k:=by rw[HNX.out,hb];simp
     have HNN:=J1 hnn;rw[hb]at k133;clear hnn hq hb;repeat' (first|refine goS ?_|refine uJ (k133 _) ?_|(refine go2 ?_ ?_<;>intro hh)|fail)
     all_goals refine contH_mk J9 J7 J8 ?_
     all_goals refine⟨?_,?_⟩
     all_goals first|exact Z2|skip
     all_goals (rw[HNN.out];simp only[go_sem, *,Nat.reduceLT,Int.reduceEq,Int.reduceBEq,Int.reduceLE,Int.reduceLT,Nat.reduceAdd,Nat.reduceBEq,Nat.reduceEqDiff,reduceIte,Nat.reduceLeDiff,Nat.reduceMul,Nat.reduceSub,reduceCtorEq])
 ·have hd0:=dF hlt
  obtain rfl:k=8:=by omega
  have hd00:decide (((8:Nat):Int)<8)=false:=rfl;repeat' (first|refine goS ?_|(refine go2 ?_ ?_<;>intro hh)|fail)
  all_goals (simp only[rV Tryz.func105,Tryz.results105];first|exact J5|refine J6 ?_)
  exact⟨_,rfl,HX1.out⟩
end
end
section
open Go.Mo7 (setN cnt cnt_eq hasS hasL strangeL Lv agr_law)
theorem strange_is{l:List Md}(h:BkP l){m:Nat}{d:Md}(hd:l[m]? =some d)(s1 s2:Int)(seen:Nat):strangeL (⟨mks7 d.marks,s1,s2⟩::lvl l m) (setN seen)=stN (spotI (lineM l (m:Int))) seen 8:=by
 unfold strangeL stN cnt;refine Go.Mo7.countP_eq fun q _=>?_;have e:hasL (⟨mks7 d.marks,s1,s2⟩::lvl l m) q=decide ((q:Int)∈spotI (lineM l (m:Int))):=by
  rw[Bool.eq_iff_iff,decide_eq_true_eq,spot_up h.wf hd,List.mem_append];have e1:hasL (⟨mks7 d.marks,s1,s2⟩::lvl l m) q=(hasS (mks7 d.marks) q||hasL (lvl l m) q):=by
   unfold hasL;rw[List.any_cons]
  rw[e1,Bool.or_eq_true,has_mks (h.sp hd),hasL_is h q (m+1) m d (by omega) hd]
 rw[e];rfl
def agR(b:Bk)(m:Nat)(s:Int)(seen:Nat):Bool:=
 decide (b.ghost - (stN (spotI (lineM b.moulds (m:Int))) seen 8:Nat) >=0)&&rdF b.moulds seen (m+1) m s 1 b.miss (b.ghost - (stN (spotI (lineM b.moulds (m:Int))) seen 8:Nat))
theorem agR_is{b:Bk}(hbk:bookB b=true)(hmx:b.moulds.length <=maxL){m:Nat}{d:Md}(hd:b.moulds[m]? =some d)(s:Int){seen:Nat}(hs:seen<256) :
  agR b m s seen=agrN b.miss b.ghost (birthN b.moulds m) (sureM d.marks s) (canM d.marks s) seen:=by
 have hL:=bkL_of hbk hmx;have hok:=(line_ok hL s s (m+1) m d (by omega) hd).1;rw[Bool.eq_iff_iff,agr_is hbk hmx hd s hs,agr_law hok,strange_is hL.toBkP hd];unfold agR;have hr:=rd_is hL.toBkP seen (m+1) m d (by omega) hd s 1 b.miss (b.ghost - (stN (spotI (lineM b.moulds (m:Int))) seen 8:Nat));rw[show s+((1:Nat):Int) - 1=s by omega]at hr;rw[Bool.and_eq_true,decide_eq_true_eq,hr];constructor
 ·exact fun h=>h.2
 ·exact fun h=>⟨h.pos.2,h⟩
attribute [local irreducible] stN rdF spotI lineM
section
variable{c:Itr}
theorem C42(hc:c 42=none)(hc1:c 105=none)(hc2:c 106=none)(hc3:c 109=none)(hc4:c 144=none)(h133:(dX c).intr 133=some (pureFn sp133))(b:Bk)(sa:AV)(hm:MdsV sa b.moulds)(hbk:bookB b=true)(m:Nat)(d:Md)(hd:b.moulds[m]? =some d)(s:Int)(hs:1 <=s/\s <=36)(seen:Nat)(hsn:seen<256)(h:Heap) :
  ClR (dX c) 42 [.agg [.int .i64 b.miss,.int .i64 b.ghost,sa],.int .i64 (m:Int),.int .i64 s,.int .i64 (seen:Int)] h (valR (.bool (agR b m s seen)) h):=by
 have os:=hm.out;have hL:=bkL_of hbk hm.max;have hml:=(List.getElem?_eq_some_iff.1 hd).1;have hb2:=hbk;unfold bookB at hb2;simp only[Bool.and_eq_true]at hb2;have hmi:0 <=b.miss/\b.miss <=2:=by
  have:=hb2.1.1.1;unfold inB at this;rw[Bool.and_eq_true,decide_eq_true_eq,decide_eq_true_eq]at this;exact this
 have hgh:0 <=b.ghost/\b.ghost <=2:=by
  have:=hb2.1.1.2;unfold inB at this;rw[Bool.and_eq_true,decide_eq_true_eq,decide_eq_true_eq]at this;exact this
 have hln:b.moulds.length <=5:=by
  have:=hb2.1.2;unfold inB at this;rw[Bool.and_eq_true,decide_eq_true_eq,decide_eq_true_eq]at this;omega
 have hll:=line_len hm.max hL.ok (Nat.le_refl _) (m:=(m:Int)) (by omega) (by omega);have hst:=stN_le (spotI (lineM b.moulds (m:Int))) seen 8;have k105:=C105 (c:=c) hc1 hc3 hc4 h133 b.miss b.ghost sa b.moulds hm b.moulds.length hL.wf (Nat.le_refl _) (m:Int) (by omega) (by omega) (by omega) seen hsn h;unfold ClR at k105;obtain⟨r,k105,⟨hz,rfl,hx1⟩⟩:=k105;have hag:agR b m s seen=(decide (b.ghost - (stN (spotI (lineM b.moulds (m:Int))) seen 8:Nat) >=0)&&rdF b.moulds seen (m+1) m s 1 b.miss (b.ghost - (stN (spotI (lineM b.moulds (m:Int))) seen 8:Nat))):=rfl;have k106:=fun h=>C106 hc2 h133 b.miss b.ghost sa b.moulds hm hL.toBkP seen hsn (m+1) m d (by omega) hd s s 1 b.miss (b.ghost - (stN (spotI (lineM b.moulds (m:Int))) seen 8:Nat)) h (by omega) (by omega) (by omega) (by omega);rw[hag];have HX1:=J1 hx1;generalize stN (spotI (lineM b.moulds (m:Int))) seen 8=A at *;have w1:IntKind.i64.wrap (b.ghost - (A:Int))=b.ghost - (A:Int):=wrap_small (by omega) (by omega);clear hm hL hbk hb2 hd hag hx1 hml hll hst hln hmi hgh;cases hg:decide (b.ghost - (A:Int) >=0)with
 |false=>
  rw[Bool.false_and];refine ClR.walk (c:=_) hc Tryz.func42 rfl (by kernel_rfl) rfl valR_fail ?_
  try simp only[entryEnv,Nat.reduceAdd,List.nil_append,List.cons_append,emptyHp]
  repeat' (first|(apply W.draw (id:=1) (lc:=[0,1,2,3,4,5,6,7]) (hot:=[(1,5)]);kernel_rfl;kernel_rfl;kernel_rfl;exact Z4)|(refine WD.cons rfl rfl ?_)|(refine WD.nil ⟨?_,?_⟩;rotate_left;simp only[tN,bN,eN,true_and])|(refine calmR rfl rfl rfl rfl rfl ?_ ?_;(focus (first|exact Z2|exact Z1)))|(refine calmE rfl rfl rfl rfl rfl ?_ ?_;(focus (first|exact Z2|exact Z1)))|(with_reducible refine calmEnd)|refine go1 ?_|refine uJ k105 ?_|(refine go2 ?_ ?_<;>intro hh)|fail)
  all_goals (simp only[rV Tryz.func42,Tryz.results42];first|exact J5|refine J6 ?_)
  exact⟨_,rfl,HX1.out⟩
 |true=>
  rw[Bool.true_and];refine ClR.walk (c:=_) hc Tryz.func42 rfl (by kernel_rfl) rfl valR_fail ?_
  try simp only[entryEnv,Nat.reduceAdd,List.nil_append,List.cons_append,emptyHp]
  repeat' (first|(apply W.draw (id:=1) (lc:=[0,1,2,3,4,5,6,7]) (hot:=[(1,5)]);kernel_rfl;kernel_rfl;kernel_rfl;exact Z4)|(refine WD.cons rfl rfl ?_)|(refine WD.nil ⟨?_,?_⟩;rotate_left;simp only[tN,bN,eN,true_and])|(refine calmR rfl rfl rfl rfl rfl ?_ ?_;(focus (first|exact Z2|exact Z1)))|(refine calmE rfl rfl rfl rfl rfl ?_ ?_;(focus (first|exact Z2|exact Z1)))|(with_reducible refine calmEnd)|refine go1 ?_|refine uJ k105 ?_|refine uJ (k106 _) ?_|(refine go2 ?_ ?_<;>intro hh)|fail)
  all_goals (simp only[rV Tryz.func42,Tryz.results42];first|exact J5|refine J6 ?_)
  exact⟨_,rfl,HX1.out⟩
end
end
end Go.AM
