/-
    A part of the proof: contracts of functions.
-/
import Derived.Test.YtgihdicidaipmaaGreatDoorTAR
set_option linter.unusedSectionVars false
set_option linter.unusedVariables false
set_option linter.unusedSimpArgs false
set_option maxRecDepth 100000
set_option maxHeartbeats 16000000
namespace Go.AM
open Go Go.Proofs
variable[Keep]
attribute [local irreducible] W WO WO1 WD WQ WT thenQ blockQ endR isRet retK Cl ClR
section
attribute [local irreducible] roundQ RdR patC memP grownS setP cutF birF houN entE allK rowK leadF clearB
def loopW(ok:List Nat->Bool)(N:Nat):Nat->List Nat->List (List Nat)
 |0,_=>[]
 |d+1,g=>(if ok (g++[N - (d+1)])=true then [g++[N - (d+1)]]else [])++loopW ok N d (g++[N - (d+1)])++loopW ok N d g
def nodeW(ok:List Nat->Bool)(N d:Nat)(g:List Nat):List (List Nat):=(if ok g=true then [g]else [])++loopW ok N d g
theorem loopW_succ(ok:List Nat->Bool)(N d:Nat)(g:List Nat):loopW ok N (d+1) g=nodeW ok N d (g++[N - (d+1)])++loopW ok N d g:=rfl
def upTo(N:Nat):Nat->List Nat
 |0=>[]
 |d+1=>(N - (d+1))::upTo N d
theorem node_full{ok:List Nat->Bool}{N:Nat}:∀(d:Nat) (g:List Nat),ok (g++upTo N d)=true->g++upTo N d∈nodeW ok N d g
 |0,g,h=>by
  unfold upTo at *;rw[List.append_nil]at *;unfold nodeW;rw[if_pos h];simp
 | d + 1, g, h => by
  have e:g++upTo N (d+1)=(g++[N - (d+1)])++upTo N d:=by
   rw[show upTo N (d+1)=(N - (d+1))::upTo N d from rfl];simp
  rw[e]at h ⊢;have:=node_full d _ h;unfold nodeW;rw[loopW_succ];exact List.mem_append_right _ (List.mem_append_left _ this)
def canK:Blk->Bool
 | .rw _ (.int _ _::_)=>false
 | .rw _ (_::_)=>true
 |_=>false
def KeepC(ic:Nat)(h h':Heap):Prop:=h.next <=h'.next/\∀id b,id<h.next->id≠ic->h.get id=some b->canK b=false->h'.get id=some b
theorem KeepC.refl(ic:Nat)(h:Heap):KeepC ic h h:=⟨Nat.le_refl _,fun _ _ _ _ e _=>e⟩
theorem KeepC.trans{ic:Nat}{a b c:Heap}(h:KeepC ic a b)(k:KeepC ic b c):KeepC ic a c:=⟨Nat.le_trans h.1 k.1,fun id x hi hn hg hc=>k.2 id x (Nat.lt_of_lt_of_le hi h.1) hn (h.2 id x hi hn hg hc) hc⟩
theorem KeepC.ext{ic:Nat}{h h':Heap}(x:HExt h h'):KeepC ic h h':=⟨x.1,fun id b hi _ hg _=>(x.2 id hi).trans hg⟩
theorem canK_nats(g:List Nat):canK (.rw 1 (natsE g))=false:=by
 cases g with
 |nil=>rfl
 |cons a l=>rfl
theorem KeepC.gone{ic:Nat}{h h':Heap}(k:KeepC ic h h'){cs:List AV}(hc:h.get ic=some (.var cs)){u:AV}{g:List Nat}(b:Blt h u 1 (natsE g)):Blt h' u 1 (natsE g):=by
 rcases b with b|⟨id,h1,h2,h3,h4⟩
 ·exact .inl b
 ·refine .inr ⟨id,h1,k.2 id _ h3 (fun e=>?_) h2 (canK_nats g),Nat.lt_of_lt_of_le h3 k.1,h4⟩
  subst e;rw[hc]at h2;cases h2
def CanV(h:Heap)(cv:AV)(L:List (List Nat)):Prop:=∃us,Blt h cv 1 us/\us.length=L.length/\(∀u∈us,∀(k:IntKind) (n:Int),u≠.int k n)/\∀(i:Nat) (u:AV) (g:List Nat),us[i]? =some u->L[i]? =some g->Blt h u 1 (natsE g)
theorem CanV.nil(h:Heap):CanV h .nilslice []:=⟨[],.nil,rfl,(fun u hu=>by cases hu),fun i u g e _=>by simp at e⟩
theorem CanV.ext{h h':Heap}{cv:AV}{L:List (List Nat)}(q:CanV h cv L)(x:HExt h h'):CanV h' cv L:=by
 obtain⟨us,b,hl,hi,hg⟩:=q;have kb:∀{v:AV} {sz:Nat} {l:List AV},Blt h v sz l->Blt h' v sz l:=fun {v sz l} b=>by
  rcases b with b|⟨id,h1,h2,h3,h4⟩
  ·exact .inl b
  ·exact .inr ⟨id,h1,(x.2 id h3).trans h2,Nat.lt_of_lt_of_le h3 x.1,h4⟩
 exact⟨us,kb b,hl,hi,fun i u g e1 e2=>kb (hg i u g e1 e2)⟩
theorem CanV.app{ic:Nat}{h h1 h2:Heap}{cv v ga:AV}{us:List AV}{L:List (List Nat)}{g:List Nat}{cs cs':List AV}(hb:Blt h cv 1 us)(hl:us.length=L.length)(hi:∀u∈us,∀(k:IntKind) (n:Int),u≠.int k n)(hg:∀(i:Nat) (u:AV) (g:List Nat),us[i]? =some u->L[i]? =some g->Blt h u 1 (natsE g))
  (hic:h.get ic=some (.var cs)) (hil:ic<h.next) (bg:Blt h ga 1 (natsE g)) (hB:BltN 0 h1 v 1 (us++[ga])) (hK:Keeps h h1 cv) (h2e:h2=h1.put ic (.var cs')):CanV h2 v (L++[g])/\KeepC ic h h2:=by
 subst h2e;have hcv:∀id b,id<h.next->h.get id=some b->canK b=false->h1.get id=some b:=fun id b h3 h4 h5=>by
  refine(hK.2 id h3 fun x y e=>?_).trans h4;subst e;rcases hb with⟨e,_⟩|⟨j,e,e2,_,e4⟩
  ·cases e
  ·cases e
   rw[e2]at h4;cases h4;cases us with
   |nil=>exact e4 rfl
   |cons a l=>
    have:=hi a (by simp);cases a<;>simp[canK]at h5;exact this _ _ rfl
 have hkc:KeepC ic h (h1.put ic (.var cs')):=⟨hK.1,fun id b h3 h4 h5 h6=>by
  rw[Heap.get_put,if_neg (Ne.symm h4)];exact hcv id b h3 h5 h6⟩
 refine⟨⟨us++[ga],?_,by simp[hl],?_,fun i u g' e1 e2=>?_⟩,hkc⟩
 ·rcases hB with⟨_,e⟩|⟨id,e1,e2,_,e4,e5⟩
  ·exact absurd e (by simp)
  ·refine .inr ⟨id,e1,?_,e4,e5⟩
   rw[Heap.get_put,if_neg ?_]
   ·exact e2
   ·rintro rfl
    have h9:h1.get ic=some (.var cs):=(hK.2 ic hil fun x y e=>by
     subst e;rcases hb with⟨e,_⟩|⟨j,e,e2,_⟩
     ·cases e
     ·cases e
      rw[hic]at e2;cases e2).trans hic
    rw[h9]at e2;cases e2
 ·intro u hu
  rcases List.mem_append.1 hu with hu|hu
  ·exact hi u hu
  ·rw[List.mem_singleton]at hu
   subst hu;intro k n e;subst e;rcases bg with⟨e,_⟩|⟨j,e,_⟩<;>cases e
 ·by_cases hlt:i<us.length
  ·rw[List.getElem?_append_left hlt]at e1
   rw[List.getElem?_append_left (by omega)]at e2;exact hkc.gone hic (hg i u g' e1 e2)
  ·rw[List.getElem?_append_right (by omega)]at e1 e2
   have h0:i - us.length=0:=by
    rcases Nat.eq_zero_or_pos (i - us.length)with h0|h0
    ·exact h0
    ·rw[List.getElem?_eq_none (by simp;omega)]at e1
     cases e1
   have h00:i - L.length=0:=by omega
   rw[h0]at e1;rw[h00]at e2;have e1:ga=u:=by simpa using e1
   have e2:g=g':=by simpa using e2
   subst e1;subst e2;exact hkc.gone hic bg
structure EnvW(b:Bk)(sa dv bv:AV)(i1 i4 i6 i7 i8 mid:Nat)(h:Heap):Prop where
 g1:h.get i1=some (.var [.int .i64 b.miss,.int .i64 b.ghost,sa])
 g4:h.get i4=some (.var [.int .i64 b.miss,.int .i64 b.ghost,sa,dv,bv])
 g6:h.get i6=some (.var [.map mid])
 gm:h.get mid=some (.mp (entE (leadF b) (allK (leadF b) b.moulds.length)))
 g8:h.get i8=some (.var [.func (.func 112) [] [.ptr i4 0,.ptr i6 0,.ptr i7 0,.ptr i1 0,.ptr i8 0]])
 lt:i1<h.next/\i4<h.next/\i6<h.next/\i7<h.next/\i8<h.next/\mid<h.next
 ne:i1≠i7/\i4≠i7/\i6≠i7/\i8≠i7/\mid≠i7
theorem EnvW.keep{b:Bk}{sa dv bv:AV}{i1 i4 i6 i7 i8 mid:Nat}{h h':Heap}(q:EnvW b sa dv bv i1 i4 i6 i7 i8 mid h)(k:KeepC i7 h h'):EnvW b sa dv bv i1 i4 i6 i7 i8 mid h':=by
 obtain⟨a1,a2,a3,a4,a5,a6⟩:=q.lt;obtain⟨n1,n2,n3,n4,n5⟩:=q.ne;have hx:=k.1;exact⟨k.2 _ _ a1 n1 q.g1 rfl,k.2 _ _ a2 n2 q.g4 rfl,k.2 _ _ a3 n3 q.g6 rfl,k.2 _ _ a6 n5 q.gm rfl,k.2 _ _ a5 n4 q.g8 rfl,by omega,q.ne⟩
def intsN(g:List Nat):List Int:=g.map fun n:Nat=>(n:Int)
theorem see_nats{h:Heap}{u:AV}{g:List Nat}(b:Blt h u 1 (natsE g))(hl:g.length <=maxL):SeeV h intC u (intsN g):=by
 have e:natsE g=(intsN g).map intC.enc:=by simp[natsE,intsN,intC]
 rw[e]at b;exact SeeV.blt b (by unfold intsN;simpa using hl)
def srchR(i7:Nat)(h:Heap)(L:List (List Nat))(r:COut):Prop:=∃h' cv,r= .ret (.tuple []) h' none/\KeepC i7 h h'/\h'.get i7=some (.var [cv])/\CanV h' cv L
theorem srchR_fail{i7:Nat}{h:Heap}{L:List (List Nat)}:¬srchR i7 h L .fail:=by rintro⟨_,_,e,_⟩;cases e
end
section
attribute [local irreducible] roundQ RdR patC memP grownS setP cutF birF houN entE allK rowK leadF clearB natsE
section
variable{c:Itr}
theorem blt0{h:Heap}{v:AV}{sz:Nat}{l:List AV}(b:Blt h v sz l):BltN 0 h v sz l:=by
 rcases b with b|⟨id,h1,h2,h3,h4⟩
 ·exact .inl b
 ·exact .inr ⟨id,h1,h2,Nat.zero_le _,h3,h4⟩
theorem cv_ne{h:Heap}{v:AV}{sz:Nat}{l:List AV}(b:Blt h v sz l){id:Nat}{cs:List AV}(hg:h.get id=some (.var cs))(x y:Nat):v≠.row id x y:=by
 rintro rfl;rcases b with⟨e,_⟩|⟨j,e,e2,_⟩
 ·cases e
 ·cases e
  rw[hg]at e2;cases e2
structure CxW(c:Itr):Prop where
 h112:c 112=none
 h113:c 113=none
 h114:c 114=none
 h146:c 146=none
 h171:c 171=some (pureFn sp171)
 h145:c 145=some (flatFn sp145)
theorem L112(cx:CxW c)(b:Bk)(sa dv bv:AV)(hbk:bookB b=true)(hm:MdsV sa b.moulds)(o1:outV (some dv)=some dv)(o2:outV (some bv)=some bv)(i1 i4 i6 i7 i8 mid:Nat)(N:Nat)(hN:b.moulds.length=N)(hN5:N <=1000)(ok:List Nat->Bool)(hok:∀g,clearB (leadF b) (intsN g) N=ok g)(d:Nat)(hd:d <=N)
  (ih:∀e,e<d->∀(ga:AV) (g:List Nat) (L:List (List Nat)) (cv:AV) (h:Heap),g.length+e <=N->L.length <=10000->Blt h ga 1 (natsE g)->EnvW b sa dv bv i1 i4 i6 i7 i8 mid h->h.get i7=some (.var [cv])->CanV h cv L->L.length+(nodeW ok N e g).length <=10000->
   ClR (dX c) 112 [ga,.int .i64 ((N - e:Nat):Int),.ptr i4 0,.ptr i6 0,.ptr i7 0,.ptr i1 0,.ptr i8 0] h (srchR i7 h (L++nodeW ok N e g)))
  (ga:AV) (g:List Nat) (L:List (List Nat)) (cv:AV) (hn:Nat) (hm0:Mp Blk) (hgl:g.length+d <=N) (hL:L.length <=10000) (hg:Blt ⟨hn,hm0⟩ ga 1 (natsE g)) (hE:EnvW b sa dv bv i1 i4 i6 i7 i8 mid ⟨hn,hm0⟩) (hc7:hm0.get i7=some (.var [cv])) (hC:CanV ⟨hn,hm0⟩ cv L) (hLL:L.length+(nodeW ok N d g).length <=10000) :
  ClR (dX c) 112 [ga,.int .i64 ((N - d:Nat):Int),.ptr i4 0,.ptr i6 0,.ptr i7 0,.ptr i1 0,.ptr i8 0] ⟨hn,hm0⟩ (srchR i7 ⟨hn,hm0⟩ (L++nodeW ok N d g)):=by
 have os:=hm.out;have hlen:=hm.len;rw[hN]at hlen;have og:=hg.out;have lg:=hg.len;rw[natsE_len]at lg;have hsc:ga.cells.length=1:=by rw[hg.cells];rfl
 have cgs:=hg.cells;have cgt:=hg.tup;simp only[AV.cells]at cgs;simp only[isTuple]at cgt;have k113:=C113 (c:=c) cx.h113 cx.h146 cx.h171 cx.h145 b.miss b.ghost sa dv bv o1 o2 b.moulds hm (leadF b) (fun m w=>leadF_lt hm hbk m w) mid ga (intsN g) og ⟨hn,hm0⟩ (see_nats hg (by unfold maxL;omega)) hE.gm;rw[hN,hok]at k113;have e1:hm0.get i1=_:=hE.g1;have e4:hm0.get i4=_:=hE.g4;have e6:hm0.get i6=_:=hE.g6;have e8:hm0.get i8=_:=hE.g8;obtain⟨us,hcb,hcl,hci,hcg⟩:=id hC;have oc:=hcb.out;have hc:=cx.h112;have HE:=J1 hE;have HC:=J1 hC;have HG:=J1 hg;have HIH:=J1 ih;obtain⟨a1,a2,a3,a4,a5,a6⟩:=id hE.lt;obtain⟨n1,n2,n3,n4,n5⟩:=id hE.ne;have HND:=J1 hLL;have hnode:nodeW ok N d g=(if ok g=true then [g]else [])++loopW ok N d g:=rfl
 generalize hL1:L++(if ok g=true then [g]else [])=L1
 have hfin:L++nodeW ok N d g=L1++loopW ok N d g:=by rw[hnode,<-hL1,List.append_assoc]
 rw[hfin];have HL1:=J1 hL1;have hLL1:L1.length+(loopW ok N d g).length <=10000:=by rw[<-List.length_append,<-hfin,List.length_append];exact hLL
 have HLL:=J1 hLL1;clear hE hC hg ih hnode hL1 hfin hLL1 hm hLL;have hcv7:∀x y,cv≠.row i7 x y:=by
  rintro x y rfl;rcases hcb with⟨e,_⟩|⟨j,e,e2,_⟩
  ·cases e
  ·cases e
   rw[hp_get,hc7]at e2;cases e2
 have hAc:BltN 0 ⟨hn,hm0⟩ cv 1 us:=blt0 hcb;have hlc:us.length+1 <=most:=by unfold most;omega
 have hw0:IntKind.i64.wrap ((N:Int))=(N:Int):=wrap_small (by omega) (by omega);cases hgk:ok g with
 | true =>
  rw[hgk]at k113;refine ClR.walk (c:=_) hc Tryz.func112 rfl (by kernel_rfl) rfl srchR_fail ?_
  try simp only[entryEnv,Nat.reduceAdd,List.nil_append,List.cons_append,emptyHp]
  repeat' (first|(apply WO1.appendX (t:=89) (u:=89) (e:=36) (e':=36) (sz:=1) (tl:=[]) (b:=0) (h0:=⟨0,.nil⟩) (hb:=hAc) (hx:=⟨Nat.zero_le _,fun id h=>absurd h (Nat.not_lt_zero id)⟩);exact Z1;exact rfl;exact Z2;exact Z2;exact Z2;(focus (exact ty_row89));exact Z1;(focus (intro v hv;simp at hv;subst hv;first|rfl|exact hsc));(focus (simp only[List.length_map,List.length_cons,List.length_nil];exact hlc));(focus (simp));(intro vc hc1;obtain⟨cn,cm⟩:=hc1;intro hBc hoc hKc hEc hXc;have hccc:=hBc.blt.cells;have httc:=hBc.blt.tup;simp only[AV.cells]at hccc;simp only[isTuple]at httc;simp only[pM,pN]))|refine go1 ?_|refine uJ k113 ?_|(refine go2 ?_ ?_<;>intro hh)|fail)
  have z7:cm.get i7=some (.var [cv]):=(hKc.2 i7 a4 hcv7).trans hc7;have z1:cm.get i1=_:=(hKc.2 i1 a1 (cv_ne hcb e1)).trans e1;obtain⟨hCan,hKC⟩:=CanV.app (ic:=i7) (h2:=⟨cn,cm.set i7 (.var [vc])⟩) (cs':=[vc]) hcb hcl hci hcg hc7 a4 HG.out hBc hKc rfl;have hL1g:=HL1.out;rw[hgk,if_pos rfl]at hL1g;rw[hL1g]at hCan;have HCan:=J1 hCan;have HKC:=J1 hKC;have y7:(cm.set i7 (.var [vc])).get i7=some (.var [vc]):=get_set_same _ _ _;have qY7:=J1 y7;have y1:(cm.set i7 (.var [vc])).get i1=_:=(Mp.get_set ..).trans ((if_neg (Ne.symm n1)).trans z1);clear hCan hKC y7 hL1g hBc hKc hEc hXc hcg hci hAc;repeat' (first|refine goS ?_|(refine go2 ?_ ?_<;>intro hh)|fail)
  refine W.loopV (d) [0,5,6] [] (fun k e lm hp=>∃cv1 acc,e.get 9=some (.int .i64 ((N - d+k:Nat):Int))/\hp.get i7=some (.var [cv1])/\CanV hp cv1 (L1++acc)/\KeepC i7 ⟨hn,hm0⟩ hp/\acc++loopW ok N (d - k) g=loopW ok N d g) ?_ ?_
  ·skip
   refine⟨_,[],?_,qY7.out,?_,HKC.out,rfl⟩
   ·simp[go_sem, *]
   ·rw[List.append_nil];exact HCan.out
  intro k e lm hp hk0 hce hcl hinv;simp only[keepE,and_true]at hce;obtain⟨c0,c5,c6⟩:=hce;simp only[go_sem, *,Nat.reduceBEq,Nat.reduceEqDiff,reduceIte]at c0 c5 c6;clear hcl;obtain⟨cv1,acc,h9,hk7,hCn,hKp,hac⟩:=hinv;by_cases hlt:k<d
  ·have hd0:=dT hlt
   have hv_0:=wrap_succ hlt (by unfold maxL;omega);obtain⟨ee,hee⟩:∃ee,d - k=ee+1:=⟨d - k - 1,by omega⟩;have hmm:N - (ee+1)=N - d+k:=by omega
   obtain⟨pn,pm⟩:=hp;have hE1:=HE.out.keep hKp;have g1:pm.get i1=_:=hE1.g1;have g8:pm.get i8=_:=hE1.g8;obtain⟨b1,b2,b3,b4,b5,b6⟩:=id hE1.lt;have hgp:=hKp.gone hc7 HG.out;have k114:=C114 c cx.h114 ga g ⟨pn,pm⟩ hgp (by omega);unfold ClR clR at k114;obtain⟨r,k114,v,⟨zn,zm⟩,rfl,hBv,hxz⟩:=k114;have hov:=hBv.blt.out;have hAm:BltN 0 ⟨zn,zm⟩ v 1 (natsE g):=blt0 hBv.blt;have hlm:(natsE g).length+1 <=most:=by rw[natsE_len];unfold most;omega
   have z8:zm.get i8=_:=(hxz.2 i8 b5).trans g8;have hw:IntKind.i64.wrap (((N - d+k:Nat):Int)+1)=((N - d+k+1:Nat):Int):=by rw[wrap_small (by omega) (by omega)];omega
   have hdc:decide (((N - d+k:Nat):Int)<(N:Int))=true:=by simp only[decide_eq_true_eq];omega
   rw[hee,loopW_succ,hmm]at hac;have HAC:=J1 hac;have HKP:=J1 hKp;have HCN:=J1 hCn;have HE1:=J1 hE1;have HBV:=J1 hBv;have HXZ:=J1 hxz;have HLT0:=J1 hlt;have HEE:=J1 hee;have HK7:=J1 hk7;clear hac hKp hCn hE1 hBv hxz hee hgp hmm hk7;repeat' (first|(apply W.draw (id:=5) (lc:=[0,1,2,3,4,5,6,7,8]) (hot:=[(0,2),(0,5)]);kernel_rfl;kernel_rfl;kernel_rfl;exact Z4)|(apply WD.cons (o:=⟨some 34,_,_,_,_,none⟩);exact rfl;exact rfl)|(refine WD.cons rfl rfl ?_)|(refine WD.nil ⟨?_,?_⟩;rotate_left;simp only[tN,bN,eN,true_and])|(refine calmR rfl rfl rfl rfl rfl ?_ ?_;(focus (first|exact Z2|exact Z1)))|(refine calmE rfl rfl rfl rfl rfl ?_ ?_;(focus (first|exact Z2|exact Z1)))|(with_reducible refine calmEnd)|(apply WO1.appendX (t:=36) (u:=36) (e:=3) (e':=3) (sz:=1) (tl:=[]) (b:=0) (h0:=⟨0,.nil⟩) (hb:=hAm) (hx:=⟨Nat.zero_le _,fun id h=>absurd h (Nat.not_lt_zero id)⟩);exact Z1;exact rfl;exact Z2;exact Z2;exact Z2;(focus (exact ty_row36));exact Z1;(focus (intro v hv;simp at hv;subst hv;first|rfl|exact hsc));(focus (simp only[List.length_map,List.length_cons,List.length_nil];exact hlm));(focus (simp));(intro vm hm1;obtain⟨mn,mm⟩:=hm1;intro hBm hom hKm hEm hXm;have hccm:=hBm.blt.cells;have httm:=hBm.blt.tup;simp only[AV.cells]at hccm;simp only[isTuple]at httm;simp only[pM,pN]))|refine go1 ?_|refine uJ k114 ?_|(refine go2 ?_ ?_<;>intro hh)|fail)
   have hzl:∀id,id<pn->Heap.get ⟨mn,mm⟩ id=Heap.get ⟨pn,pm⟩ id:=fun id hid=>by
    refine(hKm.2 id (Nat.lt_of_lt_of_le hid HXZ.out.1) fun x y e=>?_).trans (HXZ.out.2 id hid);rcases HBV.out with⟨e2,_⟩|⟨j,e2,_,e3,_⟩
    ·rw[e2]at e;cases e
    ·rw[e2]at e
     cases e;simp only at e3;omega
   have hxm:HExt ⟨pn,pm⟩ ⟨mn,mm⟩:=⟨Nat.le_trans HXZ.out.1 hKm.1,hzl⟩;have m8:mm.get i8=_:=(hzl i8 b5).trans g8;have hBg:Blt ⟨mn,mm⟩ vm 1 (natsE (g++[N - d+k])):=by rw[natsE_app];exact hBm.blt
   have hlen2:(L1++acc).length+(nodeW ok N ee (g++[N - d+k])).length <=10000:=by
    have h1:=HLL.out;rw[<-HAC.out]at h1;simp only[List.length_append]at h1 ⊢;omega
   have k112:=HIH.out ee (by have:=HEE.out;omega) vm (g++[N - d+k]) (L1++acc) cv1 ⟨mn,mm⟩ (by have:=HEE.out;simp only[List.length_append,List.length_cons,List.length_nil];omega) (by omega) hBg (HE1.out.keep (.ext hxm)) ((hzl i7 b4).trans HK7.out) (HCN.out.ext hxm) hlen2;have hne:N - ee=N - d+k+1:=by have:=HEE.out;omega
   rw[hne]at k112;unfold ClR at k112;obtain⟨r,k112,⟨wn,wm⟩,cv2,rfl,hKw,hk7w,hCw⟩:=k112;rw[List.append_assoc]at hCw;have hacn:(acc++nodeW ok N ee (g++[N - d+k]))++loopW ok N (d - (k+1)) g=loopW ok N d g:=by
    rw[<-HAC.out,List.append_assoc];have:d - (k+1)=ee:=by have:=HEE.out;omega
    rw[this]
   have HKW:=J1 ((HKP.out.trans (.ext hxm)).trans hKw);have HK7W:=J1 hk7w;have HCW:=J1 hCw;have HACN:=J1 hacn;clear hzl hxm hBg hlen2 hne hKw hk7w hCw hacn hBm hKm hEm hXm;repeat' (first|(apply W.draw (id:=5) (lc:=[0,1,2,3,4,5,6,7,8]) (hot:=[(0,2),(0,5)]);kernel_rfl;kernel_rfl;kernel_rfl;exact Z4)|(apply WD.cons (o:=⟨some 34,_,_,_,_,none⟩);exact rfl;exact rfl)|(refine WD.cons rfl rfl ?_)|(refine WD.nil ⟨?_,?_⟩;rotate_left;simp only[tN,bN,eN,true_and])|(refine calmR rfl rfl rfl rfl rfl ?_ ?_;(focus (first|exact Z2|exact Z1)))|(refine calmE rfl rfl rfl rfl rfl ?_ ?_;(focus (first|exact Z2|exact Z1)))|(with_reducible refine calmEnd)|refine go1 ?_|refine uJ k112 ?_|(refine go2 ?_ ?_<;>intro hh)|fail)
   all_goals refine contV_mk J9 J7 J8 ?_
   all_goals refine⟨cv2,acc++nodeW ok N ee (g++[N - d+k]),?_,HK7W.out,HCW.out,HKW.out,HACN.out⟩
   all_goals first|exact Z2|skip
   all_goals (simp only[go_sem, *,Nat.reduceLT,Int.reduceEq,Int.reduceBEq,Int.reduceLE,Int.reduceLT,Nat.reduceAdd,Nat.reduceBEq,Nat.reduceEqDiff,reduceIte,Nat.reduceLeDiff,Nat.reduceMul,Nat.reduceSub,reduceCtorEq];rfl)
  ·have hd0:=dF hlt
   obtain rfl:k=d:=by omega
   have hd0:k - k=0:=Nat.sub_self k;have hdc:decide (((N - k+k:Nat):Int)<(N:Int))=false:=by simp only[decide_eq_false_iff_not];omega
   have hE1:=HE.out.keep hKp;have g1:hp.get i1=_:=hE1.g1;obtain⟨pn,pm⟩:=hp;simp only[hp_get]at g1;rw[hd0,show loopW ok N 0 g=[] from rfl,List.append_nil]at hac;rw[hac]at hCn;have HKP:=J1 hKp;have HCN:=J1 hCn;have HK7:=J1 hk7;clear hac hKp hCn hE1 hk7;repeat' (first|refine goS ?_|(refine go2 ?_ ?_<;>intro hh)|fail)
   simp only[eN];all_goals (simp only[rV Tryz.func112,Tryz.results112];first|exact J5|refine J6 ?_)
   exact⟨_,_,rfl,HKP.out,HK7.out,HCN.out⟩
 | false =>
  rw[hgk]at k113;have hL1g:=HL1.out;rw[hgk,if_neg (by decide),List.append_nil]at hL1g;have HCan:=J1 (show CanV ⟨hn,hm0⟩ cv L1 by rw[<-hL1g];exact HC.out);have HKC:=J1 (KeepC.refl i7 ⟨hn,hm0⟩);have qY7:=J1 hc7;clear hcg hci hAc hL1g;refine ClR.walk (c:=_) hc Tryz.func112 rfl (by kernel_rfl) rfl srchR_fail ?_
  try simp only[entryEnv,Nat.reduceAdd,List.nil_append,List.cons_append,emptyHp]
  repeat' (first|refine goS ?_|refine uJ k113 ?_|(refine go2 ?_ ?_<;>intro hh)|fail)
  refine W.loopV (d) [0,5,6] [] (fun k e lm hp=>∃cv1 acc,e.get 9=some (.int .i64 ((N - d+k:Nat):Int))/\hp.get i7=some (.var [cv1])/\CanV hp cv1 (L1++acc)/\KeepC i7 ⟨hn,hm0⟩ hp/\acc++loopW ok N (d - k) g=loopW ok N d g) ?_ ?_
  ·skip
   refine⟨_,[],?_,qY7.out,?_,HKC.out,rfl⟩
   ·simp[go_sem, *]
   ·rw[List.append_nil];exact HCan.out
  intro k e lm hp hk0 hce hcl hinv;simp only[keepE,and_true]at hce;obtain⟨c0,c5,c6⟩:=hce;simp only[go_sem, *,Nat.reduceBEq,Nat.reduceEqDiff,reduceIte]at c0 c5 c6;clear hcl;obtain⟨cv1,acc,h9,hk7,hCn,hKp,hac⟩:=hinv;by_cases hlt:k<d
  ·have hd0:=dT hlt
   have hv_0:=wrap_succ hlt (by unfold maxL;omega);obtain⟨ee,hee⟩:∃ee,d - k=ee+1:=⟨d - k - 1,by omega⟩;have hmm:N - (ee+1)=N - d+k:=by omega
   obtain⟨pn,pm⟩:=hp;have hE1:=HE.out.keep hKp;have g1:pm.get i1=_:=hE1.g1;have g8:pm.get i8=_:=hE1.g8;obtain⟨b1,b2,b3,b4,b5,b6⟩:=id hE1.lt;have hgp:=hKp.gone hc7 HG.out;have k114:=C114 c cx.h114 ga g ⟨pn,pm⟩ hgp (by omega);unfold ClR clR at k114;obtain⟨r,k114,v,⟨zn,zm⟩,rfl,hBv,hxz⟩:=k114;have hov:=hBv.blt.out;have hAm:BltN 0 ⟨zn,zm⟩ v 1 (natsE g):=blt0 hBv.blt;have hlm:(natsE g).length+1 <=most:=by rw[natsE_len];unfold most;omega
   have z8:zm.get i8=_:=(hxz.2 i8 b5).trans g8;have hw:IntKind.i64.wrap (((N - d+k:Nat):Int)+1)=((N - d+k+1:Nat):Int):=by rw[wrap_small (by omega) (by omega)];omega
   have hdc:decide (((N - d+k:Nat):Int)<(N:Int))=true:=by simp only[decide_eq_true_eq];omega
   rw[hee,loopW_succ,hmm]at hac;have HAC:=J1 hac;have HKP:=J1 hKp;have HCN:=J1 hCn;have HE1:=J1 hE1;have HBV:=J1 hBv;have HXZ:=J1 hxz;have HLT0:=J1 hlt;have HEE:=J1 hee;have HK7:=J1 hk7;clear hac hKp hCn hE1 hBv hxz hee hgp hmm hk7;repeat' (first|(apply W.draw (id:=5) (lc:=[0,1,2,3,4,5,6,7,8]) (hot:=[(0,2),(0,5)]);kernel_rfl;kernel_rfl;kernel_rfl;exact Z4)|(apply WD.cons (o:=⟨some 34,_,_,_,_,none⟩);exact rfl;exact rfl)|(refine WD.cons rfl rfl ?_)|(refine WD.nil ⟨?_,?_⟩;rotate_left;simp only[tN,bN,eN,true_and])|(refine calmR rfl rfl rfl rfl rfl ?_ ?_;(focus (first|exact Z2|exact Z1)))|(refine calmE rfl rfl rfl rfl rfl ?_ ?_;(focus (first|exact Z2|exact Z1)))|(with_reducible refine calmEnd)|(apply WO1.appendX (t:=36) (u:=36) (e:=3) (e':=3) (sz:=1) (tl:=[]) (b:=0) (h0:=⟨0,.nil⟩) (hb:=hAm) (hx:=⟨Nat.zero_le _,fun id h=>absurd h (Nat.not_lt_zero id)⟩);exact Z1;exact rfl;exact Z2;exact Z2;exact Z2;(focus (exact ty_row36));exact Z1;(focus (intro v hv;simp at hv;subst hv;first|rfl|exact hsc));(focus (simp only[List.length_map,List.length_cons,List.length_nil];exact hlm));(focus (simp));(intro vm hm1;obtain⟨mn,mm⟩:=hm1;intro hBm hom hKm hEm hXm;have hccm:=hBm.blt.cells;have httm:=hBm.blt.tup;simp only[AV.cells]at hccm;simp only[isTuple]at httm;simp only[pM,pN]))|refine go1 ?_|refine uJ k114 ?_|(refine go2 ?_ ?_<;>intro hh)|fail)
   have hzl:∀id,id<pn->Heap.get ⟨mn,mm⟩ id=Heap.get ⟨pn,pm⟩ id:=fun id hid=>by
    refine(hKm.2 id (Nat.lt_of_lt_of_le hid HXZ.out.1) fun x y e=>?_).trans (HXZ.out.2 id hid);rcases HBV.out with⟨e2,_⟩|⟨j,e2,_,e3,_⟩
    ·rw[e2]at e;cases e
    ·rw[e2]at e
     cases e;simp only at e3;omega
   have hxm:HExt ⟨pn,pm⟩ ⟨mn,mm⟩:=⟨Nat.le_trans HXZ.out.1 hKm.1,hzl⟩;have m8:mm.get i8=_:=(hzl i8 b5).trans g8;have hBg:Blt ⟨mn,mm⟩ vm 1 (natsE (g++[N - d+k])):=by rw[natsE_app];exact hBm.blt
   have hlen2:(L1++acc).length+(nodeW ok N ee (g++[N - d+k])).length <=10000:=by
    have h1:=HLL.out;rw[<-HAC.out]at h1;simp only[List.length_append]at h1 ⊢;omega
   have k112:=HIH.out ee (by have:=HEE.out;omega) vm (g++[N - d+k]) (L1++acc) cv1 ⟨mn,mm⟩ (by have:=HEE.out;simp only[List.length_append,List.length_cons,List.length_nil];omega) (by omega) hBg (HE1.out.keep (.ext hxm)) ((hzl i7 b4).trans HK7.out) (HCN.out.ext hxm) hlen2;have hne:N - ee=N - d+k+1:=by have:=HEE.out;omega
   rw[hne]at k112;unfold ClR at k112;obtain⟨r,k112,⟨wn,wm⟩,cv2,rfl,hKw,hk7w,hCw⟩:=k112;rw[List.append_assoc]at hCw;have hacn:(acc++nodeW ok N ee (g++[N - d+k]))++loopW ok N (d - (k+1)) g=loopW ok N d g:=by
    rw[<-HAC.out,List.append_assoc];have:d - (k+1)=ee:=by have:=HEE.out;omega
    rw[this]
   have HKW:=J1 ((HKP.out.trans (.ext hxm)).trans hKw);have HK7W:=J1 hk7w;have HCW:=J1 hCw;have HACN:=J1 hacn;clear hzl hxm hBg hlen2 hne hKw hk7w hCw hacn hBm hKm hEm hXm;repeat' (first|(apply W.draw (id:=5) (lc:=[0,1,2,3,4,5,6,7,8]) (hot:=[(0,2),(0,5)]);kernel_rfl;kernel_rfl;kernel_rfl;exact Z4)|(apply WD.cons (o:=⟨some 34,_,_,_,_,none⟩);exact rfl;exact rfl)|(refine WD.cons rfl rfl ?_)|(refine WD.nil ⟨?_,?_⟩;rotate_left;simp only[tN,bN,eN,true_and])|(refine calmR rfl rfl rfl rfl rfl ?_ ?_;(focus (first|exact Z2|exact Z1)))|(refine calmE rfl rfl rfl rfl rfl ?_ ?_;(focus (first|exact Z2|exact Z1)))|(with_reducible refine calmEnd)|refine go1 ?_|refine uJ k112 ?_|(refine go2 ?_ ?_<;>intro hh)|fail)
   all_goals refine contV_mk J9 J7 J8 ?_
   all_goals refine⟨cv2,acc++nodeW ok N ee (g++[N - d+k]),?_,HK7W.out,HCW.out,HKW.out,HACN.out⟩
   all_goals first|exact Z2|skip
   all_goals (simp only[go_sem, *,Nat.reduceLT,Int.reduceEq,Int.reduceBEq,Int.reduceLE,Int.reduceLT,Nat.reduceAdd,Nat.reduceBEq,Nat.reduceEqDiff,reduceIte,Nat.reduceLeDiff,Nat.reduceMul,Nat.reduceSub,reduceCtorEq];rfl)
  ·have hd0:=dF hlt
   obtain rfl:k=d:=by omega
   have hd0:k - k=0:=Nat.sub_self k;have hdc:decide (((N - k+k:Nat):Int)<(N:Int))=false:=by simp only[decide_eq_false_iff_not];omega
   have hE1:=HE.out.keep hKp;have g1:hp.get i1=_:=hE1.g1;obtain⟨pn,pm⟩:=hp;simp only[hp_get]at g1;rw[hd0,show loopW ok N 0 g=[] from rfl,List.append_nil]at hac;rw[hac]at hCn;have HKP:=J1 hKp;have HCN:=J1 hCn;have HK7:=J1 hk7;clear hac hKp hCn hE1 hk7;repeat' (first|refine goS ?_|(refine go2 ?_ ?_<;>intro hh)|fail)
   simp only[eN];all_goals (simp only[rV Tryz.func112,Tryz.results112];first|exact J5|refine J6 ?_)
   exact⟨_,_,rfl,HKP.out,HK7.out,HCN.out⟩
end
end
end Go.AM
