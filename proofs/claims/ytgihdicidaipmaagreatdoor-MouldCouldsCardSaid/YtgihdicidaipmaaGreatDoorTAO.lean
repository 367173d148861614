/-
    A part of the proof: contracts of functions.
-/
import Derived.Test.YtgihdicidaipmaaGreatDoorTAN
import Derived.Test.YtgihdicidaipmaaGreatDoorTAI
import Derived.Test.YtgihdicidaipmaaGreatDoorTAK
import Derived.Test.YtgihdicidaipmaaGreatDoorTAD
set_option linter.unusedSectionVars false
set_option linter.unusedVariables false
set_option linter.unusedSimpArgs false
set_option maxRecDepth 100000
set_option maxHeartbeats 16000000
namespace Go.AM
open Go Go.Proofs
variable[Keep]
attribute [local irreducible] W WO WO1 WD WQ WT thenQ blockQ endR isRet retK Cl ClR
attribute [local irreducible] roundQ RdR patC memP grownS setP cutF birF rightB
open Go.Mo7 (or_lt)
def agrN(mi gh:Int)(ns:List Nat)(su ca seen:Nat):Bool:=ns.any fun n=>rightB mi gh seen (n ||| su) (n ||| ca)
def stepA(mi gh:Int)(su ca seen:Nat)(n:Nat)(s:Unit):Unit×Bool:=if rightB mi gh seen (n ||| su) (n ||| ca)=true then ((),false)else ((),true)
theorem fold_agr(mi gh:Int)(su ca seen:Nat):∀(l:List Nat),(foldS (stepA mi gh su ca seen) l ()).2=!agrN mi gh l su ca seen
 | []=>rfl
 | n :: l => by
  have ih:=fold_agr mi gh su ca seen l;unfold agrN at *;rw[List.any_cons];by_cases h:rightB mi gh seen (n ||| su) (n ||| ca)=true
  ·have e:stepA mi gh su ca seen n ()=((),false):=by unfold stepA;rw[if_pos h]
   simp only[foldS,e,h,Bool.false_eq_true,if_false,Bool.true_or,Bool.not_true]
  ·have e:stepA mi gh su ca seen n ()=((),true):=by unfold stepA;rw[if_neg h]
   have h2:rightB mi gh seen (n ||| su) (n ||| ca)=false:=by simpa using h
   simp only[foldS,e,h2,if_true,Bool.false_or];exact ih
def SamI(h0:Heap)(_:Unit)(h:Heap):Prop:=h.next=h0.next/\∀id,h.get id=h0.get id
def EndD(h0:Heap)(t L:Nat)(_:Unit)(h:Heap):Prop:=h.get t=some (.var [.bool true])/\HExt h0 h/\∃f e pl a b,h.get L=some (.loop f e pl a b .done (some .ret))
structure CxG(c:Itr):Prop where
 h101:c 101=none
 h137:c 137=none
 h141:c 141=none
 h165:c 165=none
 h166:c 166=none
 h146:c 146=none
 h136:c 136=some (flatFnD sp136)
 h171:c 171=some (pureFn sp171)
section
variable{c:Itr}
theorem C101(cx:CxG c)(mi gh:Int)(sa dv bv:AV)(o1:outV (some dv)=some dv)(l:List Md)(hm:MdsV sa l)(m:Nat)(d:Md)(hd:l[m]? =some d)(hok:spotsOk d.marks=true)(s:Int)(seen:Nat)(hsn:seen<256)
  (hn:Nat) (hm0:Mp Blk) (hO:OpO l dv bv ⟨hn,hm0⟩) :
  ClR (dX c) 101 [.agg [.int .i64 mi,.int .i64 gh,sa,dv,bv,.int .i64 (m:Int),.int .i64 s],.int .i64 (seen:Int)] ⟨hn,hm0⟩ (valR (.bool (agrN mi gh (birthN l m) (sureM d.marks s) (canM d.marks s) seen)) ⟨hn,hm0⟩):=by
 have os:=hm.out;have hml:m<l.length:=(List.getElem?_eq_some_iff.1 hd).1;obtain⟨ma,la,v1,v2,hix⟩:=hm.elem m d hd;have om:=sl_out v1;have ol:=sl_out v2;have k136:=fun h=>K136 (X:=dX c) cx.h136 (p:=d.parent) (clo:=d.clo) (chi:=d.chi) v1 v2 hok s h;obtain⟨rid,pid,els,⟨hrow,g1,g2,g3,l1,l2⟩⟩:=hO.bir hml;subst hrow;have hib:=fun hx (e:Heap.get hx rid=some (.rw 1 els))=>row_idx (t:=111) (e:=161) Tryz.underlying111 ty_lay161 e hml;simp only at l1 l2;simp only[hp_get]at g1 g3;have r0:(hn==rid)=false:=by rw[beq_eq_false_iff_ne];omega
 have r1:(hn+1==rid)=false:=by rw[beq_eq_false_iff_ne];omega
 have r2:(hn+1+1==rid)=false:=by rw[beq_eq_false_iff_ne];omega
 have r3:(hn+1+1+1==rid)=false:=by rw[beq_eq_false_iff_ne];omega
 have r4:(hn+1+1+1+1==rid)=false:=by rw[beq_eq_false_iff_ne];omega
 have b1:=(maskS_nat hok s).2;have b2:=(maskC_nat hok s).2;have k141:=fun x y (hx:x<256) (hy:y<256) h=>C141 cx.h141 cx.h165 cx.h166 cx.h146 cx.h171 mi gh sa dv (.row rid 0 l.length) os o1 rfl seen x y hsn hx hy h;have K141:=J1 k141;unfold birthN;have hc:=cx.h101;generalize sureM d.marks s=su at *;generalize canM d.marks s=ca at *;have hfa:=fold_agr mi gh su ca seen (memP (birF l m) 256);have HFA:=J1 hfa;clear hm hd hok v1 v2 k141 hfa;refine ClR.walk (c:=_) hc Tryz.func101 rfl (by kernel_rfl) rfl valR_fail ?_
 try simp only[entryEnv,Nat.reduceAdd,List.nil_append,List.cons_append,emptyHp]
 repeat' (first|(apply W.drawH (id:=1) (lc:=[14,15,0,1,2,3,4,5,6,7,8,9,10,11,12,13,16,17]) (hot:=[]) (sl:=[6,5]);kernel_rfl;kernel_rfl;kernel_rfl;kernel_rfl;kernel_rfl;kernel_rfl;exact Z4)|(apply WD.cons (o:=⟨some 17,_,_,_,_,none⟩);exact rfl;exact rfl)|(apply WD.cons (o:=⟨some 18,_,_,_,_,none⟩);exact rfl;exact rfl)|(apply WD.cons (o:=⟨some 19,_,_,_,_,none⟩);exact rfl;exact rfl)|(apply WD.cons (o:=⟨some 8,_,_,_,_,none⟩);exact rfl;exact rfl)|(apply WD.cons (o:=⟨some 20,_,_,_,_,none⟩);exact rfl;exact rfl)|(apply WD.cons (o:=⟨some 21,_,_,_,_,none⟩);exact rfl;exact rfl)|(apply WD.alloc (o:=⟨some 5,.alloc 3,0,_,_,none⟩);exact rfl;exact rfl;exact Z1;simp only[pM,pN])|(apply WD.alloc (o:=⟨some 6,.alloc 3,0,_,_,none⟩);exact rfl;exact rfl;exact Z1;simp only[pM,pN])|(apply WD.cons (o:=⟨none,.store 3 (.tmp 5) (.tmp 20),_,_,_,none⟩);exact rfl;exact rfl)|(apply WD.cons (o:=⟨none,.store 3 (.tmp 6) (.tmp 21),_,_,_,none⟩);exact rfl;exact rfl)|(refine WD.cons rfl rfl ?_)|(apply WD.nil;refine⟨rfl,?_⟩;apply prom_ex;(focus (simp only[go_sem, *,Nat.reduceLT,Int.reduceEq,Int.reduceBEq,Int.reduceLE,Int.reduceLT,Nat.reduceAdd,Nat.reduceBEq,Nat.reduceEqDiff,reduceIte,Nat.reduceLeDiff,Nat.reduceMul,Nat.reduceSub,reduceCtorEq,promoteAll,promote1,and_self,if_true];with_reducible rfl));simp only[tN,bN,eN,true_and])|refine go1 ?_|refine uJ (k136 _) ?_|(refine go2 ?_ ?_<;>intro hh)|fail)
 refine W.rangeSt (fid:=137) (first:=[.ptr pid 0]) (capt:=[]) SamI (EndD ⟨hn,hm0⟩ (hn+1+1) (hn+1+1+1+1+1)) (foldS (stepA mi gh su ca seen) (memP (birF l m) 256) ()) (by rfl) ?_ ?_ ?_ ?_ ?_
 ·first|exact Z2|exact Z1
 ·refine C137 _ _ _ cx.h137 (birF l m) pid (hn+1+1+1+1+1) ?_ ?_ () _ ⟨rfl,fun _=>rfl⟩
  ·intro s h hs
   rw[hs.2 pid]
   (simp only[Heap.get_new,Heap.get_put,hp_get,Mp.get_set,reduceIte];repeat (first|rw[if_pos rfl]|rw[if_neg (by omega)]))
   exact g3
  ·intro n u h hn1 hn2 hs
   have hL0:=hs.2 (hn+1+1+1+1+1);rw[Heap.get_new,if_pos rfl]at hL0;obtain⟨er,hE,hL⟩:∃er,er=_/\h.get (hn+1+1+1+1+1)=some (.loop 101 er _ _ _ .ready none):=⟨_,rfl,hL0⟩;clear hL0;have e2:er.get 2=some (.ptr hn 0):=by rw[hE,Mp.get_map];simp[go_sem, *,noBox]
   have e3:er.get 3=some (.ptr (hn+1) 0):=by rw[hE,Mp.get_map];simp[go_sem, *,noBox]
   have e4:er.get 4=some (.ptr (hn+1+1) 0):=by rw[hE,Mp.get_map];simp[go_sem, *,noBox]
   have e5:er.get 5=some (.ptr (hn+1+1+1+1) 0):=by rw[hE,Mp.get_map];simp[go_sem, *,noBox]
   have e6:er.get 6=some (.ptr (hn+1+1+1) 0):=by rw[hE,Mp.get_map];simp[go_sem, *,noBox]
   have w2:h.get hn=some (.var [.int .i64 mi,.int .i64 gh,sa,dv,.row rid 0 l.length,.int .i64 (m:Int),.int .i64 s]):=by rw[hs.2];exact J10
   have w3:h.get (hn+1)=some (.var [.int .i64 (seen:Int)]):=by rw[hs.2];exact J10
   have w4:h.get (hn+1+1)=some (.var [.bool false]):=by rw[hs.2];exact J10
   have w5:h.get (hn+1+1+1+1)=some (.var [.int .i64 (su:Int)]):=by rw[hs.2];exact J10
   have w6:h.get (hn+1+1+1)=some (.var [.int .i64 (ca:Int)]):=by rw[hs.2];exact J10
   obtain⟨hs2,hs3⟩:=hs;have hlow:∀id,id<hn->h.get id=hm0.get id:=fun id hid=>by
    rw[hs3 id];exact J10
   have hnx:hn+1+1+1+1+1+1=h.next:=by rw[hs2];rfl
   have HNX:=J1 hnx;have HLOW:=J1 hlow;have o3:=op_or (a:=n) (b:=su) (by omega) (by omega);have o4:=op_or (a:=n) (b:=ca) (by omega) (by omega);have k141:=K141.out (n ||| su) (n ||| ca) (or_lt hn1 b1) (or_lt hn1 b2);have hst:stepA mi gh su ca seen n u=if rightB mi gh seen (n ||| su) (n ||| ca)=true then ((),false)else ((),true):=rfl
   have HST:=J1 hst;generalize rightB mi gh seen (n ||| su) (n ||| ca)=rb at *;generalize n ||| su=x1 at *;generalize n ||| ca=x2 at *;clear hlow hst hnx;generalize Heap.new _ _=H0 at *;refine round_ok' hL rfl ?_;have HL:=J1 hL;clear hL hE;repeat' (first|refine goS ?_|(refine go2 ?_ ?_<;>intro hh)|fail)
   rintro⟨qn,qm⟩ hqn hqg hqL;have z2:=(hqg hn (by omega)).trans w2;have z3:=(hqg (hn+1) (by omega)).trans w3;have z4:=(hqg (hn+1+1) (by omega)).trans w4;have z5:=(hqg (hn+1+1+1+1) (by omega)).trans w5;have z6:=(hqg (hn+1+1+1) (by omega)).trans w6;have HQN:=J1 hqn;have HQG:=J1 hqg;have HQL:=J1 hqL;simp only[hp_get]at z2 z3 z4 z5 z6;clear hqn hqg hqL w2 w3 w4 w5 w6;cases rb with
   | true =>
    have hst:=HST.out;rw[if_pos rfl]at hst;have HST2:=J1 hst;clear hst;repeat' (first|refine goS ?_|refine uJ (k141 _) ?_|(refine go2 ?_ ?_<;>intro hh)|fail)
    refine round_end HQL.out ?_ HST2.out ?_
    ·exact J10
    refine⟨?_,⟨?_,?_⟩,_,_,_,_,_,(Heap.get_put ..).trans (if_pos rfl)⟩
    ·exact J10
    ·have h1:=HNX.out
     have h2:=HQN.out;simp only at h2;simp only[Heap.put];omega
    ·intro id hid
     have hid':id<hn:=hid;rw[Heap.get_put,if_neg (by omega),hp_get,Mp.get_set,if_neg (by omega),<-hp_get (n:=qn),HQG.out id (by omega),HLOW.out id hid'];rfl
   | false =>
    have hst:=HST.out;rw[if_neg (by decide)]at hst;have HST2:=J1 hst;clear hst;repeat' (first|refine goS ?_|refine uJ (k141 _) ?_|(refine go2 ?_ ?_<;>intro hh)|fail)
    refine round_go HQL.out rfl HST2.out ?_;refine⟨?_,?_⟩
    ·exact HQN.out.trans hs2
    ·intro id
     by_cases h5:id=hn+1+1+1+1+1
     ·subst h5
      rw[Heap.get_put,if_pos rfl,<-hs3,HL.out]
     ·rw[Heap.get_put,if_neg (fun e=>h5 e.symm)]
      exact(HQG.out id h5).trans (hs3 id)
 ·intro s h hs
  rw[hs.2 (hn+1+1+1+1+1),Heap.get_new,if_pos rfl]
 ·intro hx h hs
  have hag0:=HFA.out;rw[hx]at hag0;have hag:agrN mi gh (memP (birF l m) 256) su ca seen=false:=by simpa using hag0.symm
  clear hag0;rw[hag];obtain⟨hs2,hs3⟩:=hs;generalize hput:Heap.put h _ _=hz;obtain⟨zn,zm⟩:=hz;have z1:zm.get (hn+1+1)=some (.var [.bool false]):=by
   rw[<-hp_get (n:=zn),<-hput,Heap.get_put,if_neg (by simp only;omega),hs3];exact J10
  have z3:HExt ⟨hn,hm0⟩ ⟨zn,zm⟩:=by
   rw[<-hput];refine⟨by simp only[Heap.put,hs2,Heap.new];omega,fun id hid=>?_⟩;have hid':id<hn:=hid;rw[Heap.get_put,if_neg (by simp only;omega),hs3 id];exact J10
  have z4:HExt ⟨hn,hm0⟩ ⟨zn,zm.set (hn+1+1) (.var [.bool false])⟩:=⟨z3.1,fun id hid=>by
   have hid':id<hn:=hid;rw[hp_get,Mp.get_set,if_neg (by omega)];exact z3.2 id hid⟩
  have qZ3:=J1 z4;clear hput hs2 hs3 z3 z4 hx hag;simp only[bN,tN];repeat' (first|refine goS ?_|(refine go2 ?_ ?_<;>intro hh)|fail)
  all_goals (simp only[rV Tryz.func101,Tryz.results101];first|exact J5|refine J6 ?_)
  exact⟨_,rfl,qZ3.out⟩
 ·intro hx h hs
  have hag0:=HFA.out;rw[hx]at hag0;have hag:agrN mi gh (memP (birF l m) 256) su ca seen=true:=by simpa using hag0.symm
  clear hag0;rw[hag];obtain⟨hs1,hs2,f,e',pl,a,b,zL⟩:=hs;refine⟨f,e',pl,a,b,.done,zL,(fun e=>by cases e),?_⟩;generalize hput:Heap.put h _ _=hz;obtain⟨zn,zm⟩:=hz;have z1:zm.get (hn+1+1)=some (.var [.bool true]):=by
   rw[<-hp_get (n:=zn),<-hput,Heap.get_put,if_neg (by simp only;omega)];exact hs1
  have z3:HExt ⟨hn,hm0⟩ ⟨zn,zm⟩:=by
   rw[<-hput];refine⟨hs2.1,fun id hid=>?_⟩;have hid':id<hn:=hid;rw[Heap.get_put,if_neg (by simp only;omega),hs2.2 id hid]
  have qZ3:=J1 z3;clear hput hs1 hs2 z3 hx hag zL;simp only[tR,bR,eR,true_and];all_goals (simp only[rV Tryz.func101,Tryz.results101];first|exact J5|refine J6 ?_)
  exact⟨_,rfl,qZ3.out⟩
end
end Go.AM
namespace Go.Mo7
structure Ln7 where
 house:Int
 slo:Int
 shi:Int
 flo:Int
 fhi:Int
def sumI:List Int->Int
 | []=>0
 |a::l=>a+sumI l
theorem sumI_app:∀a b:List Int,sumI (a++b)=sumI a+sumI b
 | [],b=>by simp[sumI]
 |x::a,b=>by rw[List.cons_append,sumI,sumI,sumI_app a b];omega
def LnOk(ls:List Ln7):Prop:=∀x∈ls,0 <=x.slo/\x.slo <=x.shi
def befL(ls:List Ln7)(k:Nat):Int:=sumI ((ls.take k).map Ln7.slo)
def befH(ls:List Ln7)(k:Nat):Int:=sumI ((ls.take k).map Ln7.shi)
def shiAt(ls:List Ln7)(k:Nat):Int:=match ls[k]? with
 |some x=>x.shi
 |none=>0
theorem take_succ{α:Type}{l:List α}{k:Nat}{x:α}(h:l[k]? =some x):l.take (k+1)=l.take k++[x]:=by
 rw[List.take_add_one,h];rfl
theorem befH_succ{ls:List Ln7}{k:Nat}(h:k<ls.length):befH ls (k+1)=befH ls k+shiAt ls k:=by
 have hx:ls[k]? =some ls[k]:=List.getElem?_eq_getElem h;unfold befH shiAt;rw[take_succ hx,hx,List.map_append,sumI_app];simp[sumI]
theorem bef_le{ls:List Ln7}(ok:LnOk ls):∀k,0 <=befL ls k/\befL ls k <=befH ls k:=by
 intro k;unfold befL befH;have:∀l:List Ln7,LnOk l->0 <=sumI (l.map Ln7.slo)/\sumI (l.map Ln7.slo) <=sumI (l.map Ln7.shi):=by
  intro l;induction l with
  |nil=>intro _;simp[sumI]
  |cons a l ih=>
   intro h;have h1:=h a (by simp);have h2:=ih fun x hx=>h x (by simp[hx]);simp only[List.map_cons,sumI];omega
 exact this _ fun x hx=>ok x (List.mem_of_mem_take hx)
theorem shi_pos{ls:List Ln7}(ok:LnOk ls)(k:Nat):0 <=shiAt ls k:=by
 unfold shiAt;cases h:ls[k]? with
 |none=>simp
 |some x=>have:=ok x (List.mem_of_getElem? h);simp only;omega
def insP(ls:List Ln7)(k:Nat)(s:Int):Bool:=decide (min (befH ls k) (s - 1) >=befL ls k)&&decide (s - min (befH ls k) (s - 1) <=shiAt ls k)
def insR(ls:List Ln7)(k:Nat)(s:Int):Bool:=decide (shiAt ls k>0)&&decide (s>befL ls k)&&decide (s <=befH ls k+shiAt ls k)
theorem ins_same{ls:List Ln7}(ok:LnOk ls)(k:Nat){s:Int}(hs:1 <=s):insP ls k s=insR ls k s:=by
 have h1:=bef_le ok k;have h2:=shi_pos ok k;unfold insP insR;rw[Bool.eq_iff_iff];simp only[Bool.and_eq_true,decide_eq_true_eq];omega
def early:List Ln7->Nat->Int->Int
 | [],_,d=>d
 |x::_,0,d=>max d x.flo
 |x::l,k+1,d=>early l k (max d x.flo)
theorem early_ge:∀(l:List Ln7) (k:Nat) (d:Int),d <=early l k d
 | [],k,d=>by cases k<;>exact Int.le_refl _
 |x::l,0,d=>by rw[early];omega
 |x::l,k+1,d=>by rw[early];have:=early_ge l k (max d x.flo);omega
theorem early_mono:∀(l:List Ln7) (j k:Nat) (d:Int),j <=k->early l j d <=early l k d
 | [],j,k,d,_=>by cases j<;>cases k<;>exact Int.le_refl _
 |x::l,0,0,d,_=>Int.le_refl _
 |x::l,0,k+1,d,_=>by rw[early,early];exact early_ge l k _
 |x::l,j+1,0,d,h=>by omega
 |x::l,j+1,k+1,d,h=>by rw[early,early];exact early_mono l j k _ (by omega)
def begun(ls:List Ln7)(day:Int):Nat:=(List.range ls.length).countP fun k=>decide (early ls k 0 <=day)
theorem count_pre{p:Nat->Bool}:∀{n:Nat},(∀j k,j <=k->k<n->p k=true->p j=true)->∀k,k<n->(p k=true↔k<(List.range n).countP p)
 |0,_,k,hk=>by omega
 | n + 1, h, k, hk => by
  have ih:=count_pre (n:=n) fun j k h1 h2=>h j k h1 (by omega);have hle:(List.range n).countP p <=n:=by
   have:=List.countP_le_length (p:=p) (l:=List.range n);simpa using this
  rw[List.range_succ,List.countP_append];have h1:[n].countP p=if p n=true then 1 else 0:=by
   rw[List.countP_cons,List.countP_nil];omega
  rw[h1];cases hp:p n with
  | true =>
   have hall:∀j,j<n->p j=true:=fun j hj=>h j n (by omega) (by omega) hp;have hc:(List.range n).countP p=n:=by
    rw[List.countP_eq_length.2 fun x hx=>hall x (List.mem_range.1 hx)];simp
   rw[hc];simp only[if_true];constructor
   ·intro _;omega
   ·intro _
    by_cases e:k=n
    ·subst e;exact hp
    ·exact hall k (by omega)
  | false =>
   simp only[Bool.false_eq_true,if_false,Nat.add_zero];by_cases e:k=n
   ·subst e
    rw[hp];constructor
    ·intro h;cases h
    ·intro h;omega
   ·exact ih k (by omega)
theorem begun_is{ls:List Ln7}(day:Int){k:Nat}(hk:k<ls.length):early ls k 0 <=day↔k<begun ls day:=by
 unfold begun;rw[<-count_pre (p:=fun k=>decide (early ls k 0 <=day)) (fun j k h1 h2 h3=>?_) k hk]
 ·simp
 ·simp only[decide_eq_true_eq]at *
  have:=early_mono ls j k 0 h1;omega
theorem begun_le(ls:List Ln7)(day:Int):begun ls day <=ls.length:=by
 unfold begun;have:=List.countP_le_length (p:=fun k=>decide (early ls k 0 <=day)) (l:=List.range ls.length);simpa using this
def until7(ls:List Ln7)(day:Int):Int:=befH ls (begun ls day)
theorem some_loan{ls:List Ln7}(ok:LnOk ls){s:Int}(hs:1 <=s):∀L,L <=ls.length->(s <=befH ls L↔∃k,k<L/\insR ls k s=true)
 | 0, _ => by
  constructor
  ·intro h
   have:befH ls 0=0:=by unfold befH;simp[sumI]
   omega
  ·rintro⟨k,hk,_⟩;omega
 | L + 1, hL => by
  have ih:=some_loan ok hs L (by omega);have h1:=befH_succ (ls:=ls) (k:=L) (by omega);have h2:=shi_pos ok L;have h3:=bef_le ok L;constructor
  ·intro h
   by_cases e:s <=befH ls L
   ·obtain⟨k,hk,hi⟩:=ih.1 e
    exact⟨k,by omega,hi⟩
   ·refine⟨L,by omega,?_⟩
    unfold insR;simp only[Bool.and_eq_true,decide_eq_true_eq];omega
  ·rintro⟨k,hk,hi⟩
   by_cases e:k=L
   ·subst e
    unfold insR at hi;simp only[Bool.and_eq_true,decide_eq_true_eq]at hi;omega
   ·have:=ih.2 ⟨k,by omega,hi⟩
    omega
theorem until_law{ls:List Ln7}(ok:LnOk ls)(day:Int){s:Int}(hs:1 <=s):s <=until7 ls day↔∃k,k<ls.length/\insR ls k s=true/\early ls k 0 <=day:=by
 unfold until7;rw[some_loan ok hs _ (begun_le ls day)];have hb:=begun_le ls day;constructor
 ·rintro⟨k,hk,hi⟩
  exact⟨k,by omega,hi,(begun_is day (by omega)).2 hk⟩
 ·rintro⟨k,hk,hi,hd⟩
  exact⟨k,(begun_is day hk).1 hd,hi⟩
end Go.Mo7
namespace Go.AM
open Go
variable[Keep]
section
variable{X:Ctx}{ops:Array Oper}{K P:AV->Fr->Prop}{F:Fr}{d:Option Tmp}{T:TypeId}{p:String}{af:Array Edge}
end
section
variable{X:Ctx}{f:FuncId}{ops:Array Oper}{ts:List (Nat×Trace)}{i k j:Nat}{r:List (Nat×Nat)}{x y o:Oper}{d:Option Tmp}{op:Op}{T:TypeId}{ps:String}{af:Array Edge}{want b:Bool}{s:Tmp}
  {f1 f2:FuncId} {r1 r2:Bool} {e1 e2:Mp AV} {lm1 lm2:Mp (Nat×List AV)} {hp1 hp2:Heap} {df1 df2:List (AV×List AV)} {up1 up2:Option (AV×Bool)} {v1 v2:AV} {a1 a2 b2:Fr}
theorem calmR(h1:ops[i]? =some ⟨d,op,T,ps,af,none⟩)(h2:ops[k]? =some y)(h3:traceOf ts i=some ⟨Fr.mk f1 r1 e1 lm1 hp1 df1 up1,v1,a1⟩)(h4:traceOf ts k=some ⟨b2,v2,Fr.mk f2 r2 e2 lm2 hp2 df2 up2⟩)
  (h5:isEffD X f ⟨d,op,T,ps,af,none⟩=false) (h7:rdV X (Fr.mk f1 r1 e1 lm2 hp2 df1 up1) d op=some v1) (h8:r.all (calmPair X f ops ts)=true):((i,k)::r).all (calmPair X f ops ts)=true:=by
 simp only[List.all_cons,h8,Bool.and_true,calmPair,h1,h2,h3,h4,h5,Bool.false_eq_true,if_false,rereads,wantedA,if_true,h7];exact AV.same_refl _
theorem calmE(h1:ops[i]? =some x)(h2:ops[k]? =some ⟨d,op,T,ps,af,none⟩)(h3:traceOf ts i=some ⟨Fr.mk f1 r1 e1 lm1 hp1 df1 up1,v1,a1⟩)(h4:traceOf ts k=some ⟨Fr.mk f2 r2 e2 lm2 hp2 df2 up2,v2,a2⟩)
  (h5:isEffD X f x=true) (h7:rdV X (Fr.mk f2 r2 e2 lm1 hp1 df2 up2) d op=some v2) (h8:r.all (calmPair X f ops ts)=true):((i,k)::r).all (calmPair X f ops ts)=true:=by
 simp only[List.all_cons,h8,Bool.and_true,calmPair,h1,h2,h3,h4,h5,if_true,rereads,wantedA,h7];exact AV.same_refl _
theorem calmEnd:([]:List (Nat×Nat)).all (calmPair X f ops ts)=true:=rfl
end
end Go.AM
namespace Go.AM
open Go Go.Proofs
variable[Keep]
attribute [local irreducible] W WO WO1 WD WQ WT thenQ blockQ endR isRet retK Cl ClR
section
attribute [local irreducible] patC memP grownS setP cutF birF
open Go.Mo7 (Ln7 sumI sumI_app befL befH shiAt LnOk)
def l7(x:Ln):Ln7:=⟨x.house,x.slo,x.shi,x.flo,x.fhi⟩
def lns7(ls:List Ln):List Ln7:=ls.map l7
theorem sumI_bd:∀{l:List Int},(∀x∈l,0 <=x/\x <=1000)->0 <=sumI l/\sumI l <=1000 * (l.length:Int)
 | [],_=>by simp[sumI]
 |x::l,h=>by
  have h1:=h x (by simp);have h2:=sumI_bd (l:=l) fun y hy=>h y (by simp[hy]);simp only[sumI,List.length_cons];omega
section
variable{c:Itr}
theorem C164(hc:c 164=none)(h:Heap)(a:AV)(l:List Int)(hb:Blt h a 1 (intsE l))(hl:l.length <=1000)(hs:∀x∈l,0 <=x/\x <=1000):Cl (dX c) 164 [a] h (.ret (.int .i64 (sumI l)) h none):=by
 refine ClR.cl ?_;have oa:=hb.out;have la:=hb.len;rw[intsE_len]at la;have hg:∀(k:Nat) (x:Int),l[k]? =some x->∃id,a= .row id 0 l.length/\h.get id=some (.rw 1 (intsE l)):=fun k x hx=>by
  rcases hb with⟨_,e⟩|⟨id,e1,e2,_⟩
  ·have e:=congrArg List.length e
   rw[intsE_len]at e;have:=(List.getElem?_eq_some_iff.1 hx).1;simp at e;subst e;simp at hx
  ·rw[intsE_len]at e1
   exact⟨id,e1,e2⟩
 have HG:=J1 hg;have HS:=J1 hs;have HL:=J1 hl;have h0:sumI (l.take 0)=0:=rfl;have H0:=J1 h0;clear hb hg hs hl h0;refine ClR.walk (c:=_) hc Tryz.func164 rfl (by kernel_rfl) rfl (fun e=>by cases e) ?_
 try simp only[entryEnv,Nat.reduceAdd,List.nil_append,List.cons_append,emptyHp]
 repeat' (first|refine goS ?_|(refine go2 ?_ ?_<;>intro hh)|fail)
 refine W.loopH (l.length) [6,7] [] (fun k e lm=>e.get 8=some (.int .i64 ↑k)/\e.get 3=some (.int .i64 (sumI (l.take k)))) ?_ ?_
 ·skip
  refine⟨?_,?_⟩
  ·simp[go_sem, *]
  ·rw[H0.out];simp[go_sem, *]
 intro k e lm hk0 hce hcl hinv;simp only[keepE,and_true]at hce;obtain⟨c6,c7⟩:=hce;simp only[go_sem, *,Nat.reduceBEq,Nat.reduceEqDiff,reduceIte]at c6 c7;clear hcl;obtain⟨h8,h3⟩:=hinv;by_cases hlt:k<l.length
 ·have hd0:=dT hlt
  have hv_0:=wrap_succ hlt (by have:=HL.out;unfold maxL;omega);obtain⟨x,hx⟩:=get_some hlt;obtain⟨id,e1,e2⟩:=HG.out k x hx;subst e1;have hix:=fun(H:Heap) (e:H.get id=some (.rw 1 (intsE l)))=>row_idx (t:=36) (e:=3) Tryz.underlying36 ty_lay3 e hlt;have hat:(intsE l)[k]? =some (.int .i64 x):=by unfold intsE;rw[List.getElem?_map,hx];rfl
  have hsum:sumI (l.take (k+1))=sumI (l.take k)+x:=by rw[take_next hx,sumI_app];simp[sumI]
  have hbd:=sumI_bd (l:=l.take (k+1)) (fun y hy=>HS.out y (List.mem_of_mem_take hy));have hlk:((l.take (k+1)).length:Int) <=1000:=by rw[List.length_take];have:=HL.out;omega
  have hw:IntKind.i64.wrap (sumI (l.take k)+x)=sumI (l.take (k+1)):=by rw[<-hsum];exact wrap_small (by omega) (by omega)
  have hix0:=hix h e2;obtain⟨hn,hm⟩:=h;simp only[hp_get]at e2;have HW:=J1 hw;have HLT0:=J1 hlt;clear hx hsum hbd hlk hlt;repeat' (first|refine goS ?_|(refine go2 ?_ ?_<;>intro hh)|fail)
  all_goals refine contH_mk J9 J7 J8 ?_
  all_goals refine⟨?_,?_⟩
  all_goals first|exact Z2|skip
 ·have hd0:=dF hlt
  obtain rfl:k=l.length:=by omega
  rw[List.take_length]at h3;repeat' (first|refine goS ?_|(refine go2 ?_ ?_<;>intro hh)|fail)
  all_goals (simp only[rV Tryz.func164,Tryz.results164];first|exact J5|refine J6 ?_)
  all_goals rfl
theorem sep_new{b n sz:Nat}{h:Heap}{u v:AV}{l:List AV}(q:BltN b h u sz l)(e:v= .row h.next 0 n):SepV v u:=by
 subst e;exact(SepV.new q).symm
def lowE(ls:List Ln)(n:Nat):List Int:=(ls.take n).map Ln.slo
def highE(ls:List Ln)(n:Nat):List Int:=(ls.take n).map Ln.shi
theorem low_sum(ls:List Ln)(n:Nat):sumI (lowE ls n)=befL (lns7 ls) n:=by
 unfold lowE befL lns7;rw[<-List.map_take,List.map_map];rfl
theorem high_sum(ls:List Ln)(n:Nat):sumI (highE ls n)=befH (lns7 ls) n:=by
 unfold highE befH lns7;rw[<-List.map_take,List.map_map];rfl
theorem low_next{ls:List Ln}{k:Nat}{x:Ln}(h:ls[k]? =some x):lowE ls (k+1)=lowE ls k++[x.slo]:=by
 unfold lowE;rw[take_next h,List.map_append];rfl
theorem high_next{ls:List Ln}{k:Nat}{x:Ln}(h:ls[k]? =some x):highE ls (k+1)=highE ls k++[x.shi]:=by
 unfold highE;rw[take_next h,List.map_append];rfl
def lnsOk(ls:List Ln):Prop:=∀x∈ls,badL x=false
theorem low_bd{ls:List Ln}(ok:lnsOk ls)(n:Nat):∀x∈lowE ls n,0 <=x/\x <=1000:=fun x hx=>by
 obtain⟨y,hy,rfl⟩:=List.mem_map.1 hx;have:=badL_no (ok y (List.mem_of_mem_take hy));omega
theorem high_bd{ls:List Ln}(ok:lnsOk ls)(n:Nat):∀x∈highE ls n,0 <=x/\x <=1000:=fun x hx=>by
 obtain⟨y,hy,rfl⟩:=List.mem_map.1 hx;have:=badL_no (ok y (List.mem_of_mem_take hy));omega
theorem cut74{ls:List Ln}{n:Nat}(hn:n <=ls.length)(H:Heap):sliceV Tryz.prog H 74 (.vslice (ls.map lnC.enc)) none (some (some (.int .i64 (n:Int)))) none=some (.vslice ((ls.take n).map lnC.enc)):=by
 have hh:headOk 5 (ls.map lnC.enc)=true:=by cases ls<;>rfl
 have b1:boundV (some (some (.int .i64 (n:Int)))) (ls.map lnC.enc).length (ls.map lnC.enc).length=some n:=by
  simp only[boundV];rw[if_pos (by simp;omega)];simp
 have b2:boundV none 0 n=some 0:=rfl;simp only[sliceV,Tryz.underlying74,ty_lay100,lenS,boundsV,b1,b2,cutV,hh,Bool.false_eq_true,if_false,if_true];rw[List.map_take];rfl
attribute [local irreducible] lowE highE
theorem C138(hc:c 138=none)(hc0:c 164=none)(mi gh:Int)(sa dv bv:AV)(o1:outV (some dv)=some dv)(o2:outV (some bv)=some bv)(l:List Md)(hm:MdsV sa l)(m:Nat)(d:Md)(hd:l[m]? =some d)(ok:lnsOk d.loans)(h1:1 <=d.loans.length)(h3:d.loans.length <=3)(n:Nat)(hn:n <=d.loans.length)(h:Heap) :
  ClR (dX c) 138 [.agg [.int .i64 mi,.int .i64 gh,sa,dv,bv],.int .i64 (m:Int),.int .i64 (n:Int)] h (valR (.agg [.int .i64 (befL (lns7 d.loans) n),.int .i64 (befH (lns7 d.loans) n)]) h):=by
 have os:=hm.out;obtain⟨ma,la,v1,v2,hix⟩:=hm.elem m d hd;have om:=sl_out v1;have ol:=sl_out v2;have hla:la= .vslice (d.loans.map lnC.enc):=by
  rcases(slV_is v2).1 with⟨_,e⟩|e
  ·have:=congrArg List.length e
   simp at this;rw[this]at h1;simp at h1
  ·exact e
 have hcut:=cut74 hn;rw[<-hla]at hcut;have hsl:slV lnC (.vslice ((d.loans.take n).map lnC.enc))=some (d.loans.take n):=slV_mk (.inr rfl) (by rw[List.length_take];unfold maxL;omega);have lt0:=sl_len hsl;have ot:=sl_out hsl;have HSL:=J1 hsl;have hln:(d.loans.take n).length=n:=by rw[List.length_take];omega
 rw[hln]at lt0;generalize hva:AV.vslice ((d.loans.take n).map lnC.enc)=va0 at *;have HOK:=J1 ok;have HN:=J1 hn;have H3:=J1 h3;have HLN:=J1 hln;rw[<-low_sum,<-high_sum];have l0:lowE d.loans 0=[]:=by unfold lowE;rfl
 have l1:highE d.loans 0=[]:=by unfold highE;rfl
 have HL0:=J1 l0;have HL1:=J1 l1;clear hm hd ok h1 h3 hn v1 v2 hla hsl hva hln l0 l1;refine ClR.walk (c:=_) hc Tryz.func138 rfl (by kernel_rfl) rfl valR_fail ?_
 try simp only[entryEnv,Nat.reduceAdd,List.nil_append,List.cons_append,emptyHp]
 repeat' (first|(apply U4 (v:=va0);(focus (simp only[go_sem, *,Nat.reduceLT,Int.reduceEq,Int.reduceBEq,Int.reduceLE,Int.reduceLT,Nat.reduceAdd,Nat.reduceBEq,Nat.reduceEqDiff,reduceIte,Nat.reduceLeDiff,Nat.reduceMul,Nat.reduceSub,reduceCtorEq,Option.map_none,Option.map_some];done));exact rfl;simp only[pM,pN,rR,rP])|refine go1 ?_|(refine go2 ?_ ?_<;>intro hh)|fail)
 refine W.loopV (n) [6,19,20] [6] (fun k e lm hp=>∃u1 u2,e.get 21=some (.int .i64 ↑k)/\e.get 7=some (u1)/\e.get 8=some (u2)/\BltN h.next hp u1 1 (intsE (lowE d.loans k))/\BltN h.next hp u2 1 (intsE (highE d.loans k))/\SepV u1 u2/\HExt h hp) ?_ ?_
 ·skip
  refine⟨.nilslice,.nilslice,?_,?_,?_,?_,?_,SepV.nil _,HExt.refl _⟩
  ·simp[go_sem, *]
  ·simp[go_sem, *]
  ·simp[go_sem, *]
  ·rw[HL0.out];exact BltN.nil
  ·rw[HL1.out];exact BltN.nil
 intro k e lm hp hk0 hce hcl hinv;simp only[keepE,and_true]at hce;obtain⟨c6,c19,c20⟩:=hce;simp only[go_sem, *,Nat.reduceBEq,Nat.reduceEqDiff,reduceIte]at c6 c19 c20;simp only[keepL,and_true]at hcl;have d6:=hcl;clear hcl;simp only[go_sem, *,Nat.reduceBEq,Nat.reduceEqDiff,reduceIte]at d6;obtain⟨u1,u2,h21,h7,h8,hA1,hA2,hS,hX⟩:=hinv;by_cases hlt:k<n
 ·have hd0:=dT hlt
  have hv_0:=wrap_succ hlt (by have:=HN.out;have:=H3.out;unfold maxL;omega);obtain⟨x,hx⟩:=get_some (l:=d.loans.take n) (k:=k) (by rw[HLN.out];exact hlt);have hix2:=fun H=>lns_idx HSL.out hx H;have hx2:d.loans[k]? =some x:=by
   rw[List.getElem?_take,if_pos hlt]at hx;exact hx
  have n1:=low_next hx2;have n2:=high_next hx2;have q1:=hA1.blt.out;have q2:=hA2.blt.out;have hl1:(intsE (lowE d.loans k)).length+1 <=most:=by
   rw[intsE_len];unfold lowE most;rw[List.length_map,List.length_take];have:=H3.out;omega
  have hl2:(intsE (highE d.loans k)).length+1 <=most:=by
   rw[intsE_len];unfold highE most;rw[List.length_map,List.length_take];have:=H3.out;omega
  have HN1:=J1 n1;have HN2:=J1 n2;have HLT0:=J1 hlt;clear hx hx2 n1 n2 hlt;repeat' (first|(apply W.draw (id:=5) (lc:=[0,1,2,3,4,5,6,7,8,9,10,11,12,13]) (hot:=[(5,9)]);kernel_rfl;kernel_rfl;kernel_rfl;exact Z4)|(apply WD.cons (o:=⟨some 33,_,_,_,_,none⟩);exact rfl;exact rfl)|(apply WD.cons (o:=⟨some 34,_,_,_,_,none⟩);exact rfl;exact rfl)|(apply WD.cons (o:=⟨some 35,_,_,_,_,none⟩);exact rfl;exact rfl)|(apply WD.cons (o:=⟨some 36,_,_,_,_,none⟩);exact rfl;exact rfl)|(apply WD.cons (o:=⟨some 7,_,_,_,_,none⟩);exact rfl;exact rfl)|(apply WD.cons (o:=⟨some 8,_,_,_,_,none⟩);exact rfl;exact rfl)|(refine WD.cons rfl rfl ?_)|(refine WD.nil ⟨?_,?_⟩;rotate_left;simp only[tN,bN,eN,true_and])|(refine calmR rfl rfl rfl rfl rfl ?_ ?_;(focus (first|exact Z2|exact Z1)))|(refine calmE rfl rfl rfl rfl rfl ?_ ?_;(focus (first|exact Z2|exact Z1)))|(with_reducible refine calmEnd)|(apply WO1.appendX (t:=36) (u:=36) (e:=3) (e':=3) (sz:=1) (tl:=[]) (hb:=hA1) (hx:=HExt.pair hX);exact Z1;exact rfl;exact Z2;exact Z2;exact Z2;(focus (exact ty_row36));exact Z1;(focus (intro v hv;simp at hv;subst hv;first|rfl|exact hsc));(focus (simp only[List.length_map,List.length_cons,List.length_nil];exact hl1));(focus (simp));(intro va ha hBa hoa hKa hEa hXa;have hcca:=hBa.blt.cells;have htta:=hBa.blt.tup;simp only[AV.cells]at hcca;simp only[isTuple]at htta;simp only[pM,pN]))|(apply WO1.appendX (t:=36) (u:=36) (e:=3) (e':=3) (sz:=1) (tl:=[]) (hb:=hA2.apart hKa (SepV.symm hS)) (hx:=hXa);exact Z1;exact rfl;exact Z2;exact Z2;exact Z2;(focus (exact ty_row36));exact Z1;(focus (intro v hv;simp at hv;subst hv;first|rfl|exact hsc));(focus (simp only[List.length_map,List.length_cons,List.length_nil];exact hl2));(focus (simp));(intro vb hb hBb hob hKb hEb hXb;have hccb:=hBb.blt.cells;have httb:=hBb.blt.tup;simp only[AV.cells]at hccb;simp only[isTuple]at httb;simp only[pM,pN]))|refine go1 ?_|(refine go2 ?_ ?_<;>intro hh)|fail)
  all_goals refine contV_mk J9 J7 J8 ?_
  all_goals refine⟨va,vb,?_,?_,?_,?_,?_,?_,hXb⟩
  all_goals first|exact Z2|skip
  ·rw[HN1.out,intsE_app];exact hBa.apart hKb (sep_new hA2 hEa)
  ·rw[HN2.out,intsE_app];exact hBb
  ·exact(sep_new hBa hEb).symm
 ·have hd0:=dF hlt
  obtain rfl:k=n:=by omega
  have ln1:(lowE d.loans k).length <=1000:=by unfold lowE;rw[List.length_map,List.length_take];have:=H3.out;omega
  have ln2:(highE d.loans k).length <=1000:=by unfold highE;rw[List.length_map,List.length_take];have:=H3.out;omega
  have k164a:=C164 (c:=c) hc0 hp u1 (lowE d.loans k) hA1.blt ln1 (low_bd HOK.out k);have k164b:=C164 (c:=c) hc0 hp u2 (highE d.loans k) hA2.blt ln2 (high_bd HOK.out k);have q1:=hA1.blt.out;have q2:=hA2.blt.out;have HX:=J1 hX;generalize sumI (lowE d.loans k)=lo at *;generalize sumI (highE d.loans k)=hi at *;clear hA1 hA2 hS hX ln1 ln2;repeat' (first|refine goS ?_|refine uJ k164a ?_|refine uJ k164b ?_|(refine go2 ?_ ?_<;>intro hh)|fail)
  all_goals (simp only[rV Tryz.func138,Tryz.results138];first|exact J5|refine J6 ?_)
  exact⟨_,rfl,HX.out⟩
end
end
section
attribute [local irreducible] patC memP grownS setP cutF birF
open Go.Mo7 (Ln7 sumI befL befH shiAt insP LnOk)
theorem l7_ok{ls:List Ln}(ok:lnsOk ls):LnOk (lns7 ls):=fun x hx=>by
 obtain⟨y,hy,rfl⟩:=List.mem_map.1 hx;have:=badL_no (ok y hy);exact⟨this.2.1.1,this.2.1.2.1⟩
theorem befH_bd{ls:List Ln}(ok:lnsOk ls)(h3:ls.length <=3)(k:Nat):0 <=befL (lns7 ls) k/\befL (lns7 ls) k <=befH (lns7 ls) k/\befH (lns7 ls) k <=3000:=by
 have h1:=Go.Mo7.bef_le (l7_ok ok) k;have h2:=sumI_bd (high_bd ok k);rw[high_sum]at h2;have:(highE ls k).length <=3:=by unfold highE;rw[List.length_map,List.length_take];omega
 omega
theorem shi_at{ls:List Ln}{k:Nat}{x:Ln}(h:ls[k]? =some x):shiAt (lns7 ls) k=x.shi:=by
 unfold shiAt lns7;rw[List.getElem?_map,h];rfl
theorem minV_min(a b:Int):minV a b=min a b:=by unfold minV;split<;>omega
section
variable{c:Itr}
theorem C83(hc:c 83=none)(hc1:c 138=none)(hc0:c 164=none)(mi gh:Int)(sa dv bv:AV)(o1:outV (some dv)=some dv)(o2:outV (some bv)=some bv)(l:List Md)(hm:MdsV sa l)(m:Nat)(d:Md)(hd:l[m]? =some d)(ok:lnsOk d.loans)(h1:1 <=d.loans.length)(h3:d.loans.length <=3)(k:Nat)(hk:k<d.loans.length)(s:Int)(hs0:0 <=s)(hs1:s <=1000)(h:Heap) :
  ClR (dX c) 83 [.agg [.int .i64 mi,.int .i64 gh,sa,dv,bv],.int .i64 (m:Int),.int .i64 (k:Int),.int .i64 s] h (valR (.bool (insP (lns7 d.loans) k s)) h):=by
 have os:=hm.out;obtain⟨ma,la,v1,v2,hix⟩:=hm.elem m d hd;have om:=sl_out v1;have ol:=sl_out v2;have k138:=C138 (c:=c) hc1 hc0 mi gh sa dv bv o1 o2 l hm m d hd ok h1 h3 k (by omega) h;unfold ClR at k138;obtain⟨r,k138,h2,rfl,hx⟩:=k138;obtain⟨x,hxx⟩:=get_some hk;have hix2:=fun H=>lns_idx v2 hxx H;have hbd:=befH_bd ok h3 k;have hxb:=badL_no (ok x (List.mem_of_getElem? hxx));have hins:insP (lns7 d.loans) k s=(decide (minV (befH (lns7 d.loans) k) (s - 1) >=befL (lns7 d.loans) k)&&decide (s - minV (befH (lns7 d.loans) k) (s - 1) <=x.shi)):=by
  unfold insP;rw[shi_at hxx,minV_min]
 rw[hins];generalize befL (lns7 d.loans) k=lo at *;generalize befH (lns7 d.loans) k=hi at *;have hw1:IntKind.i64.wrap (s - 1)=s - 1:=wrap_small (by omega) (by omega);have hmin:=minV_min hi (s - 1);have hw2:IntKind.i64.wrap (s - minV hi (s - 1))=s - minV hi (s - 1):=by rw[hmin];exact wrap_small (by omega) (by omega)
 have HX:=J1 hx;clear hm hd ok hxx v1 v2 hbd hxb hins hmin hx;cases hn:decide (minV hi (s - 1) >=lo)
 ·rw[Bool.false_and]
  refine ClR.walk (c:=_) hc Tryz.func83 rfl (by kernel_rfl) rfl valR_fail ?_
  try simp only[entryEnv,Nat.reduceAdd,List.nil_append,List.cons_append,emptyHp]
  repeat' (first|refine gJ ?_|refine go1 ?_|refine uJ k138 ?_|(refine go2 ?_ ?_<;>intro hh)|fail)
  all_goals (simp only[rV Tryz.func83,Tryz.results83];first|exact J5|refine J6 ?_)
  exact⟨_,rfl,HX.out⟩
 ·rw[Bool.true_and]
  refine ClR.walk (c:=_) hc Tryz.func83 rfl (by kernel_rfl) rfl valR_fail ?_
  try simp only[entryEnv,Nat.reduceAdd,List.nil_append,List.cons_append,emptyHp]
  repeat' (first|refine gJ ?_|refine go1 ?_|refine uJ k138 ?_|(refine go2 ?_ ?_<;>intro hh)|fail)
  all_goals (simp only[rV Tryz.func83,Tryz.results83];first|exact J5|refine J6 ?_)
  exact⟨_,rfl,HX.out⟩
def cntD(ls:List Ln)(day:Int):Nat->Nat
 |0=>0
 |k+1=>if dayA ls (k+1) <=day then cntD ls day k+1 else cntD ls day k
theorem cntD_le(ls:List Ln)(day:Int):∀k,cntD ls day k <=k
 |0=>Nat.le_refl _
 |k+1=>by
  have:=cntD_le ls day k;unfold cntD;split<;>omega
def untP(ls:List Ln)(day:Int):Int:=befH (lns7 ls) (cntD ls day ls.length)
theorem OpO.day{l:List Md}{dv bv:AV}{h:Heap}(q:OpO l dv bv h){m:Nat}{d:Md}(hd:l[m]? =some d):∃rid,dv= .row rid 0 l.length/\h.get rid=some (.rw 1 (daysE l l.length))/\(daysE l l.length)[m]? =some (dayE d)/\rid<h.next:=by
 obtain⟨b,ps,q⟩:=q;have hml:=(List.getElem?_eq_some_iff.1 hd).1;have hel:(daysE l l.length)[m]? =some (dayE d):=by unfold daysE;rw[List.take_length,List.getElem?_map,hd];rfl
 have hne:daysE l l.length≠[]:=by intro e;rw[e]at hel;simp at hel
 obtain⟨rid,h1,h2,_,h3⟩:=q.bd.row hne;have hl:(daysE l l.length).length=l.length:=by unfold daysE;simp
 rw[hl]at h1;exact⟨rid,h1,h2,hel,h3⟩
theorem day_idx{d:Md}{k:Nat}(hk:k<d.loans.length)(H:Heap):indexAddrV Tryz.prog H 36 (dayE d) (.int .i64 (k:Int))=some (.vptr [.int .i64 (dayA d.loans (k+1))]):=by
 have:=(slN_is (intsE (daysA d.loans d.loans.length))).idx (P:=Tryz.prog) (hp:=H) (t:=36) (k:=k) (x:=.int .i64 (dayA d.loans (k+1))) (m:=1) Tryz.underlying36 ty_lay3 (by unfold intsE;rw[List.getElem?_map,daysA_at d.loans hk];rfl) rfl;exact this
attribute [local irreducible] dayA daysA
theorem C139(hc:c 139=none)(hc1:c 138=none)(hc0:c 164=none)(mi gh:Int)(sa dv bv:AV)(l:List Md)(hm:MdsV sa l)(m:Nat)(d:Md)(hd:l[m]? =some d)(ok:lnsOk d.loans)(h1:1 <=d.loans.length)(h3:d.loans.length <=3)(day:Int)(h:Heap)(hO:OpO l dv bv h) :
  ClR (dX c) 139 [.agg [.int .i64 mi,.int .i64 gh,sa,dv,bv],.int .i64 (m:Int),.int .i64 day] h (valR (.int .i64 (untP d.loans day)) h):=by
 have os:=hm.out;have hml:=(List.getElem?_eq_some_iff.1 hd).1;obtain⟨_,_,q⟩:=id hO;have o1:=q.bd.blt.out;have o2:=q.bb.blt.out;obtain⟨rid,hdv,g1,g2,g3⟩:=hO.day hd;have k138:=C138 (c:=c) hc1 hc0 mi gh sa dv bv o1 o2 l hm m d hd ok h1 h3 (cntD d.loans day d.loans.length) (cntD_le _ _ _) h;unfold ClR at k138;obtain⟨r,k138,h2,rfl,hx⟩:=k138;have hun:untP d.loans day=befH (lns7 d.loans) (cntD d.loans day d.loans.length):=rfl;rw[hun];generalize befL (lns7 d.loans) (cntD d.loans day d.loans.length)=lo at *;generalize befH (lns7 d.loans) (cntD d.loans day d.loans.length)=hi at *;subst hdv;have hib:=row_idx (t:=89) (e:=36) Tryz.underlying89 ty_lay36 g1 hml;have hl0:=(slN_is (intsE (daysA d.loans d.loans.length))).len;rw[intsE_len,daysA_len]at hl0;have hlen:lenS (dayE d)=some d.loans.length:=hl0;have hout:outV (some (dayE d))=some (dayE d):=(slN_is _).out;have hdc:(dayE d).cells=[dayE d]:=(slN_is _).cells;have hdt:isTuple (dayE d)=false:=(slN_is _).tup;simp only[AV.cells]at hdc;simp only[isTuple]at hdt;have hix:=fun(k:Nat) (hk:k<d.loans.length) H=>day_idx (d:=d) hk H;have HIX:=J1 hix;have HX:=J1 hx;have H3:=J1 h3;have hc00:cntD d.loans day 0=0:=rfl;have HC0:=J1 hc00;generalize hde:dayE d=de at *;obtain⟨hn,hm0⟩:=h;simp only[hp_get]at g1;clear hm hd ok hix hx hO hun q hl0 h3 hde hc00;refine ClR.walk (c:=_) hc Tryz.func139 rfl (by kernel_rfl) rfl valR_fail ?_
 try simp only[entryEnv,Nat.reduceAdd,List.nil_append,List.cons_append,emptyHp]
 repeat' (first|refine goS ?_|(refine go2 ?_ ?_<;>intro hh)|fail)
 refine W.loopH (d.loans.length) [1,2,3,14,15] [3] (fun k e lm=>e.get 16=some (.int .i64 ↑k)/\e.get 7=some (.int .i64 (cntD d.loans day k:Int))) ?_ ?_
 ·skip
  refine⟨?_,?_⟩
  ·simp[go_sem, *]
  ·rw[HC0.out];simp[go_sem, *]
 intro k e lm hk0 hce hcl hinv;simp only[keepE,and_true]at hce;obtain⟨c1,c2,c3,c14,c15⟩:=hce;simp only[go_sem, *,Nat.reduceBEq,Nat.reduceEqDiff,reduceIte]at c1 c2 c3 c14 c15;simp only[keepL,and_true]at hcl;have d3:=hcl;clear hcl;simp only[go_sem, *,Nat.reduceBEq,Nat.reduceEqDiff,reduceIte]at d3;obtain⟨h16,h7⟩:=hinv;by_cases hlt:k<d.loans.length
 ·have hd0:=dT hlt
  have hv_0:=wrap_succ hlt (by have:=H3.out;unfold maxL;omega);have hix2:=fun H=>HIX.out k hlt H;have hle:=cntD_le d.loans day k;have hw:IntKind.i64.wrap ((cntD d.loans day k:Int)+1)=((cntD d.loans day k+1:Nat):Int):=by
   have:=H3.out;rw[wrap_small (by omega) (by omega)];omega
  have hcn:cntD d.loans day (k+1)=if dayA d.loans (k+1) <=day then cntD d.loans day k+1 else cntD d.loans day k:=rfl
  have HCN:=J1 hcn;have HLT0:=J1 hlt;clear hcn hle hlt;generalize dayA d.loans (k+1)=x at *;by_cases hd:x <=day
  ·have e1:decide (x <=day)=true:=by simpa using hd
   have hcn:=HCN.out;rw[if_pos hd]at hcn;have HCN:=J1 hcn;clear hcn hd;repeat' (first|refine goS ?_|(refine go2 ?_ ?_<;>intro hh)|fail)
   all_goals refine contH_mk J9 J7 J8 ?_
   all_goals refine⟨?_,?_⟩
   all_goals first|exact Z2|skip
   all_goals (rw[HCN.out];simp only[go_sem, *,Nat.reduceLT,Int.reduceEq,Int.reduceBEq,Int.reduceLE,Int.reduceLT,Nat.reduceAdd,Nat.reduceBEq,Nat.reduceEqDiff,reduceIte,Nat.reduceLeDiff,Nat.reduceMul,Nat.reduceSub,reduceCtorEq])
  ·have e1:decide (x <=day)=false:=by simpa using hd
   have hcn:=HCN.out;rw[if_neg hd]at hcn;have HCN:=J1 hcn;clear hcn hd;repeat' (first|refine goS ?_|(refine go2 ?_ ?_<;>intro hh)|fail)
   all_goals refine contH_mk J9 J7 J8 ?_
   all_goals refine⟨?_,?_⟩
   all_goals first|exact Z2|skip
   all_goals (rw[HCN.out];simp only[go_sem, *,Nat.reduceLT,Int.reduceEq,Int.reduceBEq,Int.reduceLE,Int.reduceLT,Nat.reduceAdd,Nat.reduceBEq,Nat.reduceEqDiff,reduceIte,Nat.reduceLeDiff,Nat.reduceMul,Nat.reduceSub,reduceCtorEq])
 ·have hd0:=dF hlt
  obtain rfl:k=d.loans.length:=by omega
  repeat' (first|refine goS ?_|refine uJ k138 ?_|(refine go2 ?_ ?_<;>intro hh)|fail)
  all_goals (simp only[rV Tryz.func139,Tryz.results139];first|exact J5|refine J6 ?_)
  exact⟨_,rfl,HX.out⟩
end
end
section
def lisN(s:Nat)(k:Nat):List Nat:=(List.range k).filter fun n=>s.testBit n
def natsE(l:List Nat):List AV:=l.map fun n:Nat=>.int .i64 (n:Int)
theorem natsE_app(l:List Nat)(n:Nat):natsE (l++[n])=natsE l++[.int .i64 (n:Int)]:=by simp[natsE]
theorem natsE_len(l:List Nat):(natsE l).length=l.length:=by simp[natsE]
theorem lisN_yes{s k:Nat}(h:s.testBit k=true):lisN s (k+1)=lisN s k++[k]:=by
 unfold lisN;rw[List.range_succ,List.filter_append];simp[h]
theorem lisN_no{s k:Nat}(h:s.testBit k=false):lisN s (k+1)=lisN s k:=by
 unfold lisN;rw[List.range_succ,List.filter_append];simp[h]
theorem lisN_len(s k:Nat):(lisN s k).length <=k:=by
 unfold lisN;have:=List.length_filter_le (fun n=>s.testBit n) (List.range k);simpa using this
def rowR(l:List AV)(h:Heap)(r:COut):Prop:=∃h' v,HExt h h'/\r= .ret v h' none/\BltN h.next h' v 1 l
theorem rowR_fail{l:List AV}{h:Heap}:¬rowR l h .fail:=by rintro⟨_,_,_,e,_⟩;cases e
theorem bit62{k:Nat}(h:k <=62):bitI (k:Int)=((2 ^ k:Nat):Int):=by
 unfold bitI;rw[Int.toNat_natCast,Nat.min_eq_left (by omega),Int.one_mul];have e:((2:Int) ^ k)=((2 ^ k:Nat):Int):=by simp
 have h2:2 ^ k <=2 ^ 62:=Nat.pow_le_pow_right (by omega) h;have h3:(2:Nat) ^ 62=4611686018427387904:=rfl;rw[e];generalize 2 ^ k=n at *;exact wrap_small (by omega) (by omega)
theorem and62{a k:Nat}(ha:a<2 ^ 62)(h:k <=62):intOp .and .i64 (a:Int) ((2 ^ k:Nat):Int)=some (.int .i64 ((a &&& 2 ^ k:Nat):Int)):=by
 have h2:2 ^ k <=2 ^ 62:=Nat.pow_le_pow_right (by omega) h;have h3:(2:Nat) ^ 62<2 ^ 64:=by decide
 rw[intOp_andI];unfold andI;rw[Go.Mo7.and_nat (by omega) (by omega),i64_small (Nat.lt_of_le_of_lt Nat.and_le_left ha)]
theorem and_pow(s k:Nat):s &&& 2 ^ k=if s.testBit k=true then 2 ^ k else 0:=by
 apply Nat.eq_of_testBit_eq;intro i;rw[Nat.testBit_and,Nat.testBit_two_pow];by_cases h:k=i
 ·subst h
  by_cases hb:s.testBit k=true
  ·rw[if_pos hb,hb,Nat.testBit_two_pow]
   simp
  ·rw[if_neg hb]
   simp[hb]
 ·by_cases hb:s.testBit k=true
  ·rw[if_pos hb,Nat.testBit_two_pow]
   simp[h]
  ·rw[if_neg hb]
   simp[h]
section
variable{c:Itr}
theorem C84(hc:c 84=none)(s:Nat)(hs:s<2 ^ 62)(h:Heap):ClR (dX c) 84 [.int .i64 (s:Int)] h (rowR (natsE (lisN s 63)) h):=by
 have h0:lisN s 0=[]:=rfl;have H0:=J1 h0;have HS:=J1 hs;clear h0 hs;refine ClR.walk (c:=_) hc Tryz.func84 rfl (by kernel_rfl) rfl rowR_fail ?_
 try simp only[entryEnv,Nat.reduceAdd,List.nil_append,List.cons_append,emptyHp]
 repeat' (first|refine goS ?_|(refine go2 ?_ ?_<;>intro hh)|fail)
 refine W.loopV (63) [0] [] (fun k e lm hp=>∃u,e.get 5=some (.int .i64 ↑k)/\e.get 3=some (u)/\BltN h.next hp u 1 (natsE (lisN s k))/\HExt h hp) ?_ ?_
 ·skip
  refine⟨.nilslice,?_,?_,?_,HExt.refl _⟩
  ·simp[go_sem, *]
  ·simp[go_sem, *]
  ·rw[H0.out];unfold natsE;exact BltN.nil
 intro k e lm hp hk0 hce hcl hinv;simp only[keepE,and_true]at hce;have c0:=hce;clear hce;simp only[go_sem, *,Nat.reduceBEq,Nat.reduceEqDiff,reduceIte]at c0;clear hcl;obtain⟨u,h5,h3,hB,hX⟩:=hinv;by_cases hlt:k<63
 ·have hd0:=dT hlt
  have hv_0:=wrap_succ hlt (by unfold maxL;omega);have hbo1:=hB.blt.out;have hll:(natsE (lisN s k)).length+1 <=most:=by
   rw[natsE_len];have:=lisN_len s k;unfold most;omega
  have hd00:decide ((k:Int)<63)=true:=by simp only[decide_eq_true_eq];omega
  have hsh:intOp .shl .i64 1 (k:Int)=some (.int .i64 ((2 ^ k:Nat):Int)):=by rw[intOp_shlI (by omega),bit62 (by omega)]
  have han:=and62 (k:=k) HS.out (by omega);have hab:=and_pow s k;have hp0:0<2 ^ k:=Nat.two_pow_pos k;have HLT0:=J1 hlt;clear hlt;cases hb:s.testBit k with
  | true =>
   have hnx:=lisN_yes hb;have hne:(((s &&& 2 ^ k:Nat):Int) !=0)=true:=by
    rw[hab,if_pos hb,bne_iff_ne];omega
   have HNX:=J1 hnx;clear hab hb hnx hp0;generalize 2 ^ k=b at *;repeat' (first|(apply WO1.appendN (t:=36) (u:=36) (e:=3) (e':=3) (sz:=1) (tl:=[]) (hb:=hB) (hx:=HExt.pair hX);exact Z1;exact rfl;exact Z2;exact Z2;exact Z2;(focus (exact ty_row36));exact Z1;(focus (intro v hv;simp at hv;subst hv;first|rfl|exact hsc));(focus (simp only[List.length_map,List.length_cons,List.length_nil];exact hll));(focus (simp));(intro v' h' hB' ho' hX';have hcc':=hB'.blt.cells;have htt':=hB'.blt.tup;simp only[AV.cells]at hcc';simp only[isTuple]at htt';simp only[pM,pN]))|refine go1 ?_|(refine go2 ?_ ?_<;>intro hh)|fail)
   all_goals refine contV_mk J9 J7 J8 ?_
   all_goals refine⟨v',?_,?_,?_,hX'⟩
   all_goals first|exact Z2|skip
   ·rw[HNX.out,natsE_app];exact hB'
  | false =>
   have hnx:=lisN_no hb;have hne:(((s &&& 2 ^ k:Nat):Int) !=0)=false:=by
    rw[hab,if_neg (by rw[hb];decide)];rfl
   have HNX:=J1 hnx;have HB:=J1 hB;have HX:=J1 hX;clear hab hb hnx hp0 hB hX;generalize 2 ^ k=b at *;repeat' (first|refine goS ?_|(refine go2 ?_ ?_<;>intro hh)|fail)
   all_goals refine contV_mk J9 J7 J8 ?_
   all_goals refine⟨u,?_,?_,?_,HX.out⟩
   all_goals first|exact Z2|skip
   ·rw[HNX.out];exact HB.out
 ·have hd0:=dF hlt
  obtain rfl:k=63:=by omega
  have hd00:decide (((63:Nat):Int)<63)=false:=rfl;have hbo1:=hB.blt.out;have HX:=J1 hX;have HB:=J1 hB;clear hB hX;repeat' (first|refine goS ?_|(refine go2 ?_ ?_<;>intro hh)|fail)
  all_goals (simp only[rV Tryz.func84,Tryz.results84];first|exact J5|refine J6 ?_)
  exact⟨_,_,HX.out,rfl,HB.out⟩
end
end
end Go.AM
namespace Go.AM
open Go
variable[Keep]
def newRes(h:Heap)(sz:Nat)(el rest:List AV):AV×Heap:=
 if el.isEmpty then (.tuple (.nilslice::rest),h)else (.tuple (.row h.next 0 el.length::rest),h.new (.rw sz el))
def newFn(sz:Nat)(spec:List AV->Option (List AV×List AV)):List AV->Heap->Option (AV×Heap):=fun args h=>match viewDs h args with
 |some l=>(match spec l with|some (el,rest)=>some (newRes h sz el rest)|none=>none)
 |none=>none
theorem BR.flat{C D:Cfg}{w w':World}{L:Loc}{sz:Nat}{el:List AV}(h:BR C w L (.rw sz el))(hf:∀e∈el,∀x∈e.cells,x.flat=true)(e:w'.heap[L.b]? =w.heap[L.b]?):BR D w' L (.rw sz el):=by
 obtain⟨c,h1,h2,h3,h4,h5⟩:=h;refine⟨c,h1.same e,h2,h3,h4,fun i x hx=>?_⟩;obtain⟨k1,k2,k3⟩:=h5 i x hx;refine⟨k1,k2,fun j y hy=>?_⟩;obtain⟨v,hv,hr⟩:=k3 j y hy;exact⟨v,hv,hr.flat (hf x (List.mem_of_getElem? hx) y (List.mem_of_getElem? hy))⟩
variable{C:Cfg}{h:Heap}{w:World}
theorem newRes_is(h:Heap)(sz:Nat)(el rest:List AV):∃v h',newRes h sz el rest=(.tuple (v::rest),h')/\Blt h' v sz el/\h.next <=h'.next/\∀id,id<h.next->h'.get id=h.get id:=by
 unfold newRes;cases el with
 |nil=>exact⟨.nilslice,h,rfl,.inl ⟨rfl,rfl⟩,Nat.le_refl _,fun _ _=>rfl⟩
 |cons a r=>
  refine⟨.row h.next 0 (a::r).length,h.new (.rw sz (a::r)),rfl,.inr ⟨h.next,rfl,by rw[Heap.get_new,if_pos rfl],Nat.lt_succ_self _,by simp⟩,Nat.le_succ _,fun id hid=>?_⟩;rw[Heap.get_new,if_neg (by omega)]
theorem Cl.new{X:Ctx}{f:FuncId}{sz:Nat}{spec:List AV->Option (List AV×List AV)}{args l el rest:List AV}{h:Heap}(hX:X.intr f=some (newFn sz spec))(hv:viewDs h args=some l)(hs:spec l=some (el,rest)) :
  ∃v h',Cl X f args h (.ret (.tuple (v::rest)) h' none)/\Blt h' v sz el/\h.next <=h'.next/\∀id,id<h.next->h'.get id=h.get id:=by
 obtain⟨v,h',e,hb,hx⟩:=newRes_is h sz el rest;exact⟨v,h',Cl.intr hX (by simp[newFn,hv,hs,e]),hb,hx⟩
end Go.AM
namespace Go.AM
open Go
variable[Keep]
structure Wrap(w:AV->AV):Prop where
 vr:∀{C D:Cfg} {a b:AV} {u:Value},VR C (w a) u->b.one=true->(∀v,VR C a v->VR D b v)->VR D (w b) u
variable{C:Cfg}{h:Heap}{w:World}
end Go.AM
namespace Go.AM
open Go
variable[Keep]
variable{C:Cfg}{h:Heap}{w:World}
end Go.AM
namespace Go.AM
open Go
variable[Keep]
inductive Frz(h:Heap):AV->AV->Prop
 |flat {a:AV}:a.flat=true->Frz h a a
 | row {id sz : Nat} {el el' : List AV} : h.get id = some (.rw sz el) -> el ≠ [] -> el.length = el'.length -> (∀ e ∈ el', e.cells.length = sz) -> (∀ e ∈ el', ∀ c ∈ e.cells, c.one = true) ->
   (∀i j,i<el.length->j<sz->Frz h ((el.getD i .junk).cells.getD j .junk) ((el'.getD i .junk).cells.getD j .junk))->Frz h (.row id 0 el.length) (.vslice el')
 |agg {l m:List AV}:l.length=m.length->(∀i,i<l.length->Frz h (l.getD i .junk) (m.getD i .junk))->(∀x∈m,x.one=true)->Frz h (.agg l) (.agg m)
 |tuple {l m:List AV}:l.length=m.length->(∀i,i<l.length->Frz h (l.getD i .junk) (m.getD i .junk))->Frz h (.tuple l) (.tuple m)
def newQ(spec:List AV->Option AV):List AV->Heap->Option (AV×Heap):=fun args h=>match viewDs h args with
 |some l=>(match spec l with|some v=>some (v,h)|none=>none)
 |none=>none
variable{C:Cfg}{h:Heap}{w:World}
theorem newQ_intr1 {X : Ctx} (s : Sound X) {f : FuncId} {spec : List AV -> Option AV}
  (hr:∀args v,spec args=some v->∃u h' n,callF X (ev X n) f args emptyHp= .ret u h' none/\Frz h' u v):IntrFn X.P f (newQ spec):=by
 intro args h v h' hg C w vs r hv;unfold newQ at hg;split at hg
 ·rename_i l hl
  split at hg
  ·rename_i v0 hsp
   cases hg;obtain⟨u0,h1,n,hcall,hb⟩:=hr l _ hsp;obtain⟨p1,p2⟩:=viewDs_ok r hv hl;have hok:=s.call n f l emptyHp ⟨fun _=>none,w.cell?⟩ w vs ⟨fun _ _ h=>h,fun id blk e=>by simp[emptyHp,Heap.get]at e,fun id id' blk blk' L L' e=>by simp[emptyHp,Heap.get]at e,fun id blk L x v e=>by simp[emptyHp,Heap.get]at e,fun id L e=>(by cases e),r.base.on r.sig (fun _ _ _=>rfl)⟩ p2 (by rw[hcall];intro e;cases e);refine⟨hok.1,fun cs=>?_⟩;have:=hok.2 cs;rw[hcall]at this;obtain⟨C',w',fr,u,q1,q2,q3,q4,q5,q6⟩:=this;have hsame:∀ β,β<w.heap.size->w'.heap[β]? =w.heap[β]?:=fun β hb=>q6.same β hb emptyHp_live id;have hsg:∀x u,C.sig x=some u->w'.cell? x=some u:=fun x u e=>by
    have h1:=r.sig x u e;have hb:=WR.sig_lt (F:=Fr.mk 0 false .nil .nil h [] none) r e;unfold World.cell? at h1 ⊢;rw[hsame _ hb];exact h1
   have hbase:Base C w':=r.base.on (fun _ _ e=>e) (fun x v e=>hsame _ (WR.sig_lt (F:=Fr.mk 0 false .nil .nil h [] none) r e))
   let D:Cfg:=⟨C.mu,fun x=>if w.heap.size <=x.block then w'.cell? x else C.sig x⟩
   have hDs:∀x v,C.sig x=some v->D.sig x=some v:=fun x v e=>by
    have hb:=WR.sig_lt (F:=Fr.mk 0 false .nil .nil h [] none) r e;show (if w.heap.size <=x.block then w'.cell? x else C.sig x)=some v
    rw[if_neg (by omega)];exact e
   have hD:C.le D:=⟨fun _ _ e=>e,hDs⟩;have lb:∀id blk L',h.get id=some blk->C.mu id=some L'->L'.b<w.heap.size:=fun id blk L' e1 e2=>by
    obtain⟨L2,k1,k2⟩:=r.blk id blk e1;rw[e2]at k1;cases k1;exact k2.lt
   have hfz : ∀ {a b : AV}, Frz h1 a b -> ∀ {u : Value}, VR C' a u -> VR D b u := by
    intro a b hab;induction hab with
    |flat hf=>intro u q;exact q.flat hf
    | @row id0 sz el el' hrow hne hlen' hcl hone _ ih =>
     intro u q;obtain⟨L,m1,m2⟩:=q5.blk id0 _ hrow;have hnew:w.heap.size <=L.b:=by
      rcases Nat.lt_or_ge L.b w.heap.size with q|q
      ·exfalso
       rcases q6.live L.b q ⟨id0,_,L,hrow,m1,rfl⟩with k|k
       ·exact emptyHp_live k
       ·exact k
      ·exact q
     obtain⟨c,hc,hsz,htot,hlen,hel⟩:=m2;cases q with
     | row a h1 h2 h3 h4 =>
      rw[m1]at h1;cases h1;rename_i cap;have hl0:0<el.length:=List.length_pos_iff.2 hne;rcases h3 with h3|h3
      ·omega
      ·subst h3
       simp only[Nat.zero_mul,Nat.add_zero];have hin:∀i j,i<el.length->j<sz->∃v,c[L.o+i * sz+j]? =some v/\VR C' ((el.getD i .junk).cells.getD j .junk) v:=fun i j hi hj=>by
        have hei:el[i]? =some (el.getD i .junk):=by simp[List.getD,hi]
        obtain⟨k1,k2,k3⟩:=hel i _ hei;have hjl:j<(el.getD i .junk).cells.length:=by rw[k1];exact hj
        obtain⟨v,k4,k5⟩:=k3 j _ (List.getElem?_eq_getElem hjl);refine⟨v,k4,?_⟩;have hgd:(el.getD i .junk).cells.getD j .junk=(el.getD i .junk).cells[j]:=by rw[List.getD,List.getElem?_eq_getElem hjl];rfl
        rw[hgd];exact k5
       rw[hlen']at h2 ⊢;refine .vslice (sz:=sz) (fun i j=>(c[L.o+i * sz+j]?).getD undef) h2 hcl (fun i j hi hj=>?_) (fun i j hi hj=>?_) hone
       ·obtain⟨v,k4,_⟩:=hin i j (by omega) hj
        show (if w.heap.size <=L.b then w'.cell? ⟨L.b,L.o+i * sz+j,none⟩else _)=_
        rw[if_pos hnew,hc.cell,k4];rfl
       ·obtain⟨v,k4,k5⟩:=hin i j (by omega) hj
        rw[k4];exact ih i j (by omega) hj k5
    |agg hlen _ hone ih=>
     intro u q;cases q with
     |agg h1 h2 h3=>exact .agg (h1.trans hlen) (fun i hi=>ih i (by omega) (h2 i (by omega))) hone
    |tuple hlen _ ih=>
     intro u q;cases q with
     |tuple h1 h2=>exact .tuple (h1.trans hlen) (fun i hi=>ih i (by omega) (h2 i (by omega)))
   refine⟨D,w',fr,u,q1,q2,q3,hfz hb q4,⟨fun x v e=>?_,fun id blk e=>?_,r.inj,fun id blk L1 x v e k ks=>?_,r.fresh,hbase.on hDs (fun _ _ _=>rfl)⟩,?_⟩
   ·by_cases hb:w.heap.size <=x.block
    ·have e:(if w.heap.size <=x.block then w'.cell? x else C.sig x)=some v:=e
     rw[if_pos hb]at e;exact e
    ·have e:(if w.heap.size <=x.block then w'.cell? x else C.sig x)=some v:=e
     rw[if_neg hb]at e;exact hsg _ _ e
   ·obtain⟨L',k1,k2⟩:=r.blk id blk e
    exact⟨L',k1,k2.same hD (hsame _ k2.lt)⟩
   ·have hl1:=lb _ _ _ e k
    by_cases hb:w.heap.size <=x.block
    ·omega
    ·have ks:(if w.heap.size <=x.block then w'.cell? x else C.sig x)=some v:=ks
     rw[if_neg hb]at ks;exact r.apart _ _ _ _ _ e k ks
   ·refine { le:=hD,os:=q6.os,tape:=q6.tape,output:=q6.output,size:=q6.size,same:=fun β hb _ _=>hsame β hb,live:=fun β hb l=>.inl l,own:=fun _ _ o=>o.elim,sig:=fun x u hb e=>.inl ?_,next:=Nat.le_refl _ }
    have e:(if w.heap.size <=x.block then w'.cell? x else C.sig x)=some u:=e
    rw[if_neg (by omega)]at e;exact e
  ·cases hg
 ·cases hg
theorem newQ_intr{X:Ctx}(s:Sound X){f:FuncId}{spec:List AV->Option AV}
  (hr:∀args v,spec args=some v->∃u h',Cl X f args emptyHp (.ret u h' none)/\Frz h' u v):IntrFn X.P f (newQ spec):=
 newQ_intr1 s fun args v e=>by
  obtain⟨u,h',⟨n,hn⟩,hb⟩:=hr args v e;exact⟨u,h',n,hn n (Nat.le_refl _),hb⟩
def isQ(v:AV)(r:COut):Prop:=∃u h',r= .ret u h' none/\Frz h' u v
theorem isQ_fail{v:AV}:¬isQ v .fail:=by rintro⟨_,_,e,_⟩;cases e
theorem isQ_ret{v u:AV}{h:Heap}(f:Frz h u v):isQ v (.ret u h none):=⟨u,h,rfl,f⟩
theorem newQ_fn{X:Ctx}(s:Sound X){f:FuncId}{spec:List AV->Option AV}
  (hr:∀args v,spec args=some v->ClR X f args emptyHp (isQ v)):IntrFn X.P f (newQ spec):=
 newQ_intr s fun args v h=>by
  obtain⟨r,h1,u,h2,rfl,h3⟩:=hr args v h;exact⟨_,_,h1,h3⟩
theorem Cl.newQ{X:Ctx}{f:FuncId}{spec:List AV->Option AV}{args l:List AV}{v:AV}{h:Heap}(hX:X.intr f=some (newQ spec))(hv:viewDs h args=some l)(hs:spec l=some v) :
  Cl X f args h (.ret v h none):=Cl.intr hX (by simp[AM.newQ,hv,hs])
theorem Frz.flats{h:Heap}{id sz:Nat}{el:List AV}(hg:h.get id=some (.rw sz el))(hne:el≠[])(hs:∀e∈el,e.cells.length=sz)(hf:∀e∈el,∀x∈e.cells,x.flat=true/\x.one=true):Frz h (.row id 0 el.length) (.vslice el):=by
 refine .row hg hne rfl hs (fun e he c hc=>(hf e he c hc).2) (fun i j hi hj=>?_);have hei:el.getD i .junk∈el:=by rw[List.getD,List.getElem?_eq_getElem hi];exact List.getElem_mem hi
 have hjl:j<(el.getD i .junk).cells.length:=by rw[hs _ hei];exact hj
 have hgd:(el.getD i .junk).cells.getD j .junk∈(el.getD i .junk).cells:=by
  generalize (el.getD i .junk).cells=cs at *;rw[List.getD,List.getElem?_eq_getElem hjl];exact List.getElem_mem hjl
 exact .flat (hf _ hei _ hgd).1
theorem Blt.frz{h':Heap}{v:AV}{sz:Nat}{el:List AV}(b:Blt h' v sz el)(hs:∀e∈el,e.cells.length=sz)(hf:∀e∈el,∀x∈e.cells,x.flat=true/\x.one=true):Frz h' v (slN el):=by
 rcases b with⟨rfl,rfl⟩|⟨id,rfl,h1,h2,h3⟩
 ·exact .flat rfl
 ·cases el with
  |nil=>exact absurd rfl h3
  |cons a l=>exact .flats h1 h3 hs hf
end Go.AM
namespace Go.AM
open Go Go.Proofs
variable[Keep]
attribute [local irreducible] W WO WO1 WD WQ WT thenQ blockQ endR isRet retK Cl ClR
section
attribute [local irreducible] roundQ RdR patC memP grownS setP cutF birF
open Go.Mo7 (insP)
theorem frz_t2{h:Heap}{a b a' b':AV}(h1:Frz h a a')(h2:Frz h b b'):Frz h (.tuple [a,b]) (.tuple [a',b']):=.tuple rfl (fun i hi=>by
 have:i=0\/i=1:=by simp only[List.length_cons,List.length_nil]at hi;omega
 rcases this with rfl|rfl
 ·exact h1
 ·exact h2)
theorem natsE_sz{l:List Nat}:∀e∈natsE l,e.cells.length=1:=fun e he=>by
 obtain⟨n,_,rfl⟩:=List.mem_map.1 he;rfl
theorem natsE_flat{l:List Nat}:∀e∈natsE l,∀x∈e.cells,x.flat=true/\x.one=true:=fun e he x hx=>by
 obtain⟨n,_,rfl⟩:=List.mem_map.1 he;simp only[AV.cells,List.mem_singleton]at hx;subst hx;exact⟨rfl,rfl⟩
def houseF(ls:List Ln)(p:Nat->Bool):Nat->Nat
 |0=>0
 |k+1=>match ls[k]? with
  |some x=>if p k=true then houseF ls p k ||| 2 ^ x.house.toNat else houseF ls p k
  |none=>houseF ls p k
theorem houseF_zero(ls:List Ln)(p:Nat->Bool):houseF ls p 0=0:=rfl
theorem houseF_next{ls:List Ln}{p:Nat->Bool}{k:Nat}{x:Ln}(h:ls[k]? =some x):houseF ls p (k+1)=if p k=true then houseF ls p k ||| 2 ^ x.house.toNat else houseF ls p k:=by
 conv=>lhs;unfold houseF
 rw[h]
theorem houseF_lt{ls:List Ln}(ok:lnsOk ls)(p:Nat->Bool):∀k,houseF ls p k<64
 |0=>by unfold houseF;decide
 | k + 1 => by
  have ih:=houseF_lt ok p k;unfold houseF;split
  ·rename_i x hx
   have hb:=badL_no (ok x (List.mem_of_getElem? hx));split
   ·have h2:2 ^ x.house.toNat<2 ^ 6:=Nat.pow_lt_pow_right (by omega) (by omega)
    exact Nat.or_lt_two_pow (n:=6) ih h2
   ·exact ih
  ·exact ih
def hadV(b:Bk)(m s:Int):AV:=
 if (bookB b&&(numB b.moulds m&&inB s 1 36))=true then
  if allDays b.moulds=true then
   if houseF (mdAt b m).loans (fun i=>insP (lns7 (mdAt b m).loans) i s) (mdAt b m).loans.length=0 then .tuple [.nilslice,.int .i64 5]
   else .tuple [slN (natsE (lisN (houseF (mdAt b m).loans (fun i=>insP (lns7 (mdAt b m).loans) i s) (mdAt b m).loans.length) 63)),.int .i64 0]
  else .tuple [.nilslice,.int .i64 7]
 else .tuple [.nilslice,.int .i64 2]
attribute [local irreducible] houseF lisN natsE
section
variable{c:Itr}
theorem C82(cx:CxB c)(hc:c 82=none){a:AV}{cs:List AV}{b:Bk}(hb:bkV a=some b)(ha:a= .agg cs)(hl:cs.length=3)(m s:Int)(i j k:Nat)(h:Heap)(g1:h.get i=some (.var cs))(g2:h.get j=some (.var [.int .i64 m]))(g3:h.get k=some (.var [.int .i64 s])) :
  Cl (dX c) 82 [.ptr i 0,.ptr j 0,.ptr k 0] h (.ret (.bool (numB b.moulds m&&inB s 1 36)) h none):=by
 refine ClR.cl ?_;have k76:=fun h=>K76 (X:=dX c) cx.h76 hb m h;have h77:(dX c).intr 77=some (pureFn sp77):=cx.h77;subst ha;obtain⟨hn,hm⟩:=h;obtain⟨sa,hsa,hmd⟩:=bk_is hb;have hsa:=AV.agg.inj hsa;subst hsa;have os:=hmd.out;simp only[hp_get]at g1 g2 g3;clear hb hmd hl;cases h1:numB b.moulds m
 ·rw[h1]at k76
  refine ClR.walk (c:=_) hc Tryz.func82 rfl (by kernel_rfl) rfl (fun e=>by cases e) ?_
  try simp only[entryEnv,Nat.reduceAdd,List.nil_append,List.cons_append,emptyHp]
  repeat' (first|refine gJ ?_|refine go1 ?_|refine uJ (k76 _) ?_|refine uJ (K77 h77 _ _) ?_|(refine go2 ?_ ?_<;>intro hh)|fail)
  all_goals (simp only[rV Tryz.func82,Tryz.results82];first|exact J5|refine J6 ?_)
  all_goals simp[isR,frzRes,dX_frz,dFrz]
 ·rw[h1]at k76
  refine ClR.walk (c:=_) hc Tryz.func82 rfl (by kernel_rfl) rfl (fun e=>by cases e) ?_
  try simp only[entryEnv,Nat.reduceAdd,List.nil_append,List.cons_append,emptyHp]
  repeat' (first|refine gJ ?_|refine go1 ?_|refine uJ (k76 _) ?_|refine uJ (K77 h77 _ _) ?_|(refine go2 ?_ ?_<;>intro hh)|fail)
  all_goals (simp only[rV Tryz.func82,Tryz.results82];first|exact J5|refine J6 ?_)
  all_goals simp[isR,frzRes,dX_frz,dFrz]
theorem C27(cx:CxB c)(hc:c 27=none)(hc82:c 82=none)(hc83:c 83=none)(hc138:c 138=none)(hc164:c 164=none)(hc84:c 84=none)(b:Bk)(sa:AV)(hb:bkV (.agg [.int .i64 b.miss,.int .i64 b.ghost,sa])=some b)(hm:MdsV sa b.moulds)(m s:Int) :
  ClR (dX c) 27 [.agg [.int .i64 b.miss,.int .i64 b.ghost,sa],.int .i64 m,.int .i64 s] emptyHp (isQ (hadV b m s)):=by
 unfold hadV;have os:=hm.out;have hcs:=hm.cells;have hts:=hm.tup;have h82:=fun hn hm'=>C82 cx hc82 hb rfl rfl m s 0 1 2 ⟨hn,hm'⟩;obtain⟨m3,hm3⟩:∃m3:Mp Blk,m3=(((Mp.nil.set 0 (.var [.int .i64 b.miss,.int .i64 b.ghost,sa])).set 1 (.var [.int .i64 m])).set 2 (.var [.int .i64 s])):=⟨_,rfl⟩;have h74:=C74 cx.toCxA b sa hb hm 82 [] [.ptr 0 0,.ptr 1 0,.ptr 2 0] (numB b.moulds m&&inB s 1 36) 3 m3 (fun _=>h82 _ _ (by rw[hm3];(simp only[Heap.get_new,Heap.get_put,hp_get,Mp.get_set,reduceIte];repeat (first|rw[if_pos rfl]|rw[if_neg (by omega)]))) (by rw[hm3];(simp only[Heap.get_new,Heap.get_put,hp_get,Mp.get_set,reduceIte];repeat (first|rw[if_pos rfl]|rw[if_neg (by omega)]))) (by rw[hm3];(simp only[Heap.get_new,Heap.get_put,hp_get,Mp.get_set,reduceIte];repeat (first|rw[if_pos rfl]|rw[if_neg (by omega)]))))
 unfold ClR at h74;obtain⟨r,hca,hr⟩:=h74;simp only[AV.cells]at hcs;simp only[isTuple]at hts;unfold askR at hr;rw[hm3]at hca;cases hb1:(bookB b&&(numB b.moulds m&&inB s 1 36))with
 |false=>
  rw[hb1]at hr;simp only[Bool.false_eq_true,if_false]at hr ⊢;obtain⟨⟨zn,zm⟩,rfl,_⟩:=hr;have h2:((2:Int) !=0)=true:=rfl;unfold zeroO at hca;clear hb hm h82;refine ClR.walk (c:=_) hc Tryz.func27 rfl (by kernel_rfl) rfl isQ_fail ?_
  try simp only[entryEnv,Nat.reduceAdd,List.nil_append,List.cons_append,emptyHp]
  repeat' (first|refine goS ?_|refine uJ hca ?_|(refine go2 ?_ ?_<;>intro hh)|fail)
  all_goals (simp only[rV Tryz.func27,Tryz.results27];first|exact J5|refine J6 ?_)
  all_goals exact isQ_ret (frz_t2 (.flat rfl) (.flat rfl))
 | true =>
  rw[hb1]at hr;simp only[if_true]at hr ⊢;cases had:allDays b.moulds with
  |false=>
   rw[had]at hr;simp only[Bool.false_eq_true,if_false]at hr ⊢;obtain⟨⟨zn,zm⟩,rfl,_⟩:=hr;have h2:((7:Int) !=0)=true:=rfl;unfold zeroO at hca;clear hb hm h82;refine ClR.walk (c:=_) hc Tryz.func27 rfl (by kernel_rfl) rfl isQ_fail ?_
   try simp only[entryEnv,Nat.reduceAdd,List.nil_append,List.cons_append,emptyHp]
   repeat' (first|refine goS ?_|refine uJ hca ?_|(refine go2 ?_ ?_<;>intro hh)|fail)
   all_goals (simp only[rV Tryz.func27,Tryz.results27];first|exact J5|refine J6 ?_)
   all_goals exact isQ_ret (frz_t2 (.flat rfl) (.flat rfl))
  | true =>
   rw[had]at hr;simp only[if_true]at hr ⊢;obtain⟨dv,bv,ps,⟨zn,zm⟩,rfl,hS,hx⟩:=hr;simp only[Bool.and_eq_true]at hb1;have hO:OpO b.moulds dv bv ⟨zn,zm⟩:=⟨_,ps,hS⟩;have o1:=hS.bd.blt.out;have o2:=hS.bb.blt.out;have o3:=hS.bd.blt.cells;have o4:=hS.bb.blt.cells;have o5:=hS.bd.blt.tup;have o6:=hS.bb.blt.tup;simp only[AV.cells]at o3 o4;simp only[isTuple]at o5 o6;have h2:((0:Int) !=0)=false:=rfl;have q0:zm.get 0=some (.var [.int .i64 b.miss,.int .i64 b.ghost,sa]):=(hx.2 0 (by show 0<3;decide)).trans (by rw[hm3];exact J10);have q1:zm.get 1=some (.var [.int .i64 m]):=(hx.2 1 (by show 1<3;decide)).trans (by rw[hm3];exact J10);have q2:zm.get 2=some (.var [.int .i64 s]):=(hx.2 2 (by show 2<3;decide)).trans (by rw[hm3];exact J10);obtain⟨hbk,hnb,hst⟩:=hb1;simp only[numB,inB,Bool.and_eq_true,decide_eq_true_eq]at hnb hst;obtain⟨d,hd⟩:=get_some (l:=b.moulds) (k:=m.toNat) (by omega);have hme:((m.toNat:Nat):Int)=m:=by omega
   have hmd:mdAt b m=d:=by unfold mdAt;rw[List.getD,hd];rfl
   rw[hmd];have hpt:=mdOk_parts (n:=m.toNat) (by have:=hm.max;omega) (book_ok hbk m.toNat d (by omega) hd);have hlo:lnsOk d.loans:=hpt.2.2.2.2.2.2.2.2;have hl1:=hpt.2.2.2.2.2.2.1;obtain⟨ma,la,v1,v2,hix⟩:=hm.elem m.toNat d hd;rw[hme]at hix;have om:=sl_out v1;have ol:=sl_out v2;have ll0:=sl_len v2;have ml:=sl_max v2;have hzn:3 <=zn:=hx.1;have hX3:=J1 hzn;clear hzn;have k83:=fun k (hk:k<d.loans.length) h=>C83 (c:=c) hc83 hc138 hc164 b.miss b.ghost sa dv bv o1 o2 b.moulds hm m.toNat d hd hlo hl1.1 hl1.2 k hk s (by omega) (by omega) h;rw[hme]at k83;have K83:=J1 k83;have HV2:=J1 v2;have HLO:=J1 hlo;have HML:=J1 ml;have h0:houseF d.loans (fun i=>insP (lns7 d.loans) i s) 0=0:=houseF_zero _ _;have H0:=J1 h0;clear hb hm h82 hS hO hd hmd hpt hlo hl1 v1 v2 k83 hbk hnb hst hx ml h0;generalize hV:(if houseF d.loans (fun i=>insP (lns7 d.loans) i s) d.loans.length=0 then _ else _)=V
   have HV:=J1 hV;clear hV;refine ClR.walk (c:=_) hc Tryz.func27 rfl (by kernel_rfl) rfl isQ_fail ?_
   try simp only[entryEnv,Nat.reduceAdd,List.nil_append,List.cons_append,emptyHp]
   repeat' (first|refine goS ?_|refine uJ hca ?_|(refine go2 ?_ ?_<;>intro hh)|fail)
   refine W.loopV (d.loans.length) [4,5,8,27,28] [4,5,8] (fun k e lm hp=>e.get 29=some (.int .i64 ↑k)/\e.get 10=some (.int .i64 (houseF d.loans (fun i=>insP (lns7 d.loans) i s) k:Int))/\HExt ⟨zn,zm⟩ hp) ?_ ?_
   ·skip
    refine⟨?_,?_,HExt.refl _⟩
    ·simp[go_sem, *]
    ·rw[H0.out];simp[go_sem, *]
   intro k e lm hp hk0 hce hcl hinv;simp only[keepE,and_true]at hce;obtain⟨c4,c5,c8,c27,c28⟩:=hce;simp only[go_sem, *,Nat.reduceBEq,Nat.reduceEqDiff,reduceIte]at c4 c5 c8 c27 c28;simp only[keepL,and_true]at hcl;obtain⟨d4,d5,d8⟩:=hcl;simp only[go_sem, *,Nat.reduceBEq,Nat.reduceEqDiff,reduceIte]at d4 d5 d8;obtain⟨h29,h10,hXX⟩:=hinv;by_cases hlt:k<d.loans.length
   ·have hd0:=dT hlt
    have hv_0:=wrap_succ hlt HML.out;obtain⟨x,hxx⟩:=get_some hlt;have hix2:=fun H=>lns_idx HV2.out hxx H;have hbx:=badL_no (HLO.out x (List.mem_of_getElem? hxx));have hhl:=houseF_lt HLO.out (fun i=>insP (lns7 d.loans) i s) k;have hhn:=houseF_next (p:=fun i=>insP (lns7 d.loans) i s) hxx;have k83:=K83.out k hlt hp;unfold ClR at k83;obtain⟨r,k83,hz,rfl,hxz⟩:=k83;have y1:=(hXX.2 1 (by have:=hX3.out;simp only;omega)).trans q1;have y2:=(hXX.2 2 (by have:=hX3.out;simp only;omega)).trans q2;have hsh:intOp .shl .i64 1 x.house=some (.int .i64 ((2 ^ x.house.toNat:Nat):Int)):=by rw[intOp_shlI hbx.1.1,bitI_nat hbx.1.1 (by omega)]
    have hpw:=pow_lt hbx.1.1 (by omega);have hor:=op_or (a:=houseF d.loans (fun i=>insP (lns7 d.loans) i s) k) (b:=2 ^ x.house.toNat) (by omega) (by omega);have HXX:=J1 (hXX.trans hxz);have HLT0:=J1 hlt;have HHN:=J1 hhn;clear hXX hxz hlt hhn hhl hbx hpw hxx;obtain⟨pn,pm⟩:=hp;obtain⟨wn,wm⟩:=hz;simp only[hp_get]at y1 y2;cases hin:insP (lns7 d.loans) k s with
    |true=>
     have hhn:=HHN.out;simp only[hin,if_true]at hhn;rw[hin]at k83;have HHN:=J1 hhn;clear hhn;repeat' (first|refine goS ?_|refine uJ k83 ?_|(refine go2 ?_ ?_<;>intro hh)|fail)
     all_goals refine contV_mk J9 J7 J8 ?_
     all_goals refine⟨?_,?_,HXX.out⟩
     all_goals first|exact Z2|skip
     all_goals (rw[HHN.out];simp only[go_sem, *,Nat.reduceLT,Int.reduceEq,Int.reduceBEq,Int.reduceLE,Int.reduceLT,Nat.reduceAdd,Nat.reduceBEq,Nat.reduceEqDiff,reduceIte,Nat.reduceLeDiff,Nat.reduceMul,Nat.reduceSub,reduceCtorEq])
    |false=>
     have hhn:=HHN.out;simp only[hin,Bool.false_eq_true,if_false]at hhn;rw[hin]at k83;have HHN:=J1 hhn;clear hhn;repeat' (first|refine goS ?_|refine uJ k83 ?_|(refine go2 ?_ ?_<;>intro hh)|fail)
     all_goals refine contV_mk J9 J7 J8 ?_
     all_goals refine⟨?_,?_,HXX.out⟩
     all_goals first|exact Z2|skip
     all_goals (rw[HHN.out];simp only[go_sem, *,Nat.reduceLT,Int.reduceEq,Int.reduceBEq,Int.reduceLE,Int.reduceLT,Nat.reduceAdd,Nat.reduceBEq,Nat.reduceEqDiff,reduceIte,Nat.reduceLeDiff,Nat.reduceMul,Nat.reduceSub,reduceCtorEq])
   ·have hd0:=dF hlt
    obtain rfl:k=d.loans.length:=by omega
    have hhl:=houseF_lt HLO.out (fun i=>insP (lns7 d.loans) i s) d.loans.length;have hV:=HV.out;clear HV;generalize houseF d.loans (fun i=>insP (lns7 d.loans) i s) d.loans.length=set at *;by_cases hs0:set=0
    ·subst hs0
     have e0:(((0:Nat):Int)==0)=true:=rfl;rw[if_pos rfl]at hV;have HV:=J1 hV;clear hXX hV;repeat' (first|refine goS ?_|(refine go2 ?_ ?_<;>intro hh)|fail)
     all_goals (simp only[rV Tryz.func27,Tryz.results27];first|exact J5|refine J6 ?_)
     rw[<-HV.out];exact isQ_ret (frz_t2 (.flat rfl) (.flat rfl))
    ·have e0:(((set:Nat):Int)==0)=false:=by rw[beq_eq_false_iff_ne];omega
     rw[if_neg hs0]at hV;have k84:=C84 (c:=c) hc84 set (by omega) hp;unfold ClR at k84;obtain⟨r,k84,hz,v,hxz,rfl,hB⟩:=k84;have hbo:=hB.blt.out;have hft:=isQ_ret (frz_t2 (b:=.int .i64 0) (hB.blt.frz natsE_sz natsE_flat) (.flat rfl));rw[hV]at hft;have HFT:=J1 hft;clear hXX hxz hB hft hs0 hhl hV;repeat' (first|refine goS ?_|refine uJ k84 ?_|(refine go2 ?_ ?_<;>intro hh)|fail)
     all_goals (simp only[rV Tryz.func27,Tryz.results27];first|exact J5|refine J6 ?_)
     exact HFT.out
end
end
section
attribute [local irreducible] roundQ RdR patC memP grownS setP cutF birF agrN
open Go.Mo7 (insP befH)
def betF(ok:Nat->Bool):Nat->Nat×Nat
 |0=>(0,0)
 |k+1=>if ok k=true then (if (betF ok k).1=0 then k+1 else (betF ok k).1,k+1)else betF ok k
theorem betF_yes{ok:Nat->Bool}{k:Nat}(h:ok k=true):betF ok (k+1)=(if (betF ok k).1=0 then k+1 else (betF ok k).1,k+1):=by
 conv=>lhs;unfold betF
 rw[if_pos h]
theorem betF_no{ok:Nat->Bool}{k:Nat}(h:ok k=false):betF ok (k+1)=betF ok k:=by
 conv=>lhs;unfold betF
 rw[if_neg (by rw[h];decide)]
theorem untP_nat{ls:List Ln}(ok:lnsOk ls)(h3:ls.length <=3)(day:Int):∃u:Nat,untP ls day=(u:Int)/\u <=3000:=by
 have:=befH_bd ok h3 (cntD ls day ls.length);refine⟨(untP ls day).toNat,?_,?_⟩
 ·unfold untP;omega
 ·unfold untP;omega
def agrK(mi gh:Int)(l:List Md)(m:Nat)(d:Md)(seen:Nat)(k:Nat):Bool:=agrN mi gh (birthN l m) (sureM d.marks ((k+1:Nat):Int)) (canM d.marks ((k+1:Nat):Int)) seen
structure CxH(c:Itr):Prop extends CxG c where
 h139:c 139=none
 h138:c 138=none
 h164:c 164=none
 h83:c 83=none
structure MdG(sa:AV)(l:List Md)(m:Nat)(d:Md):Prop where
 hm:MdsV sa l
 hd:l[m]? =some d
 sp:spotsOk d.marks=true
 ln:lnsOk d.loans
 l1:1 <=d.loans.length
 l3:d.loans.length <=3
theorem OpO.outs{l:List Md}{dv bv:AV}{h:Heap}(q:OpO l dv bv h):outV (some dv)=some dv/\outV (some bv)=some bv:=by
 obtain⟨_,_,q⟩:=q;exact⟨q.bd.blt.out,q.bb.blt.out⟩
section
variable{c:Itr}
attribute [local irreducible] agrK betF
theorem betF_zero(ok:Nat->Bool):betF ok 0=(0,0):=by unfold betF;rfl
theorem C90(cx:CxH c)(hc:c 90=none)(mi gh:Int)(sa dv bv:AV)(l:List Md)(m:Nat)(d:Md)(g:MdG sa l m d)(seen:Nat)(hsn:seen<256)(day:Int)(u:Nat)(hu:untP d.loans day=(u:Int))(hu2:u <=3000)(h:Heap)(hO:OpO l dv bv h) :
  ClR (dX c) 90 [.agg [.int .i64 mi,.int .i64 gh,sa,dv,bv],.agg [.int .i64 (seen:Int),.int .i64 day],.int .i64 (m:Int)] h (valR (.tuple [.agg [.int .i64 ((betF (agrK mi gh l m d seen) u).1:Int),.int .i64 ((betF (agrK mi gh l m d seen) u).2:Int)],.bool (decide (((betF (agrK mi gh l m d seen) u).1:Int)>0))]) h):=by
 have os:=g.hm.out;obtain⟨o1,o2⟩:=hO.outs;have k139:=C139 (c:=c) cx.h139 cx.h138 cx.h164 mi gh sa dv bv l g.hm m d g.hd g.ln g.l1 g.l3 day h hO;unfold ClR at k139;obtain⟨r,k139,h2,rfl,hx⟩:=k139;rw[hu]at k139;have k101:=fun(k:Nat) hn hm0 (hO:OpO l dv bv ⟨hn,hm0⟩)=>C101 (c:=c) cx.toCxG mi gh sa dv bv o1 l g.hm m d g.hd g.sp ((k+1:Nat):Int) seen hsn hn hm0 hO;have K101:=J1 k101;have HO:=J1 hO;have HX:=J1 hx;have HU:=J1 hu2;have hb0:=betF_zero (agrK mi gh l m d seen);have HB0:=J1 hb0;clear hu hO hx k101 hu2 hb0;refine ClR.walk (c:=_) hc Tryz.func90 rfl (by kernel_rfl) rfl valR_fail ?_
 try simp only[entryEnv,Nat.reduceAdd,List.nil_append,List.cons_append,emptyHp]
 repeat' (first|refine goS ?_|refine uJ k139 ?_|(refine go2 ?_ ?_<;>intro hh)|fail)
 refine W.loopV (u) [2,3,4,6,8,15] [3,4,6] (fun k e lm hp=>e.get 16=some (.int .i64 ↑k)/\lm.get 8=some (0,[.int .i64 ((betF (agrK mi gh l m d seen) k).1:Int),.int .i64 ((betF (agrK mi gh l m d seen) k).2:Int)])/\HExt h hp) ?_ ?_
 ·skip
  refine⟨?_,?_,HX.out⟩
  ·simp[go_sem, *]
  ·rw[HB0.out];simp[go_sem, *]
 intro k e lm hp hk0 hce hcl hinv;simp only[keepE,and_true]at hce;obtain⟨c2,c3,c4,c6,c8,c15⟩:=hce;simp only[go_sem, *,Nat.reduceBEq,Nat.reduceEqDiff,reduceIte]at c2 c3 c4 c6 c8 c15;simp only[keepL,and_true]at hcl;obtain⟨d3,d4,d6⟩:=hcl;simp only[go_sem, *,Nat.reduceBEq,Nat.reduceEqDiff,reduceIte]at d3 d4 d6;obtain⟨h16,g8,hXX⟩:=hinv;by_cases hlt:k<u
 ·have hd0:=dT hlt
  have hv_0:=wrap_succ hlt (by have:=HU.out;unfold maxL;omega);obtain⟨pn,pm⟩:=hp;have k101:=K101.out k pn pm (HO.out.keep hXX);have hag:agrN mi gh (birthN l m) (sureM d.marks ((k+1:Nat):Int)) (canM d.marks ((k+1:Nat):Int)) seen=agrK mi gh l m d seen k:=by unfold agrK;rfl
  rw[hag]at k101;unfold ClR at k101;obtain⟨r,k101,hz,rfl,hxz⟩:=k101;have hyes:=betF_yes (ok:=agrK mi gh l m d seen) (k:=k);have hno:=betF_no (ok:=agrK mi gh l m d seen) (k:=k);have HXX:=J1 (hXX.trans hxz);have HLT0:=J1 hlt;clear hag hXX hxz hlt;cases hok:agrK mi gh l m d seen k with
  |false=>
   have hb:=hno hok;rw[hok]at k101;have HBF:=J1 hb;clear hb hyes hno hok;repeat' (first|refine goS ?_|refine uJ k101 ?_|(refine go2 ?_ ?_<;>intro hh)|fail)
   all_goals refine contV_mk J9 J7 J8 ?_
   all_goals refine⟨?_,?_,HXX.out⟩
   all_goals first|exact Z2|skip
   all_goals (rw[HBF.out];simp only[go_sem, *,Nat.reduceLT,Int.reduceEq,Int.reduceBEq,Int.reduceLE,Int.reduceLT,Nat.reduceAdd,Nat.reduceBEq,Nat.reduceEqDiff,reduceIte,Nat.reduceLeDiff,Nat.reduceMul,Nat.reduceSub,reduceCtorEq])
  | true =>
   have hb:=hyes hok;rw[hok]at k101;have HBF:=J1 hb;clear hb hyes hno hok;cases he:(((betF (agrK mi gh l m d seen) k).1:Int)==0)with
   |true=>
    have hb:=HBF.out;rw[if_pos (by rw[beq_iff_eq]at he;omega)]at hb;have HBF:=J1 hb;clear hb;repeat' (first|refine goS ?_|refine uJ k101 ?_|(refine go2 ?_ ?_<;>intro hh)|fail)
    all_goals refine contV_mk J9 J7 J8 ?_
    all_goals refine⟨?_,?_,HXX.out⟩
    all_goals first|exact Z2|skip
    all_goals (rw[HBF.out];simp only[go_sem, *,Nat.reduceLT,Int.reduceEq,Int.reduceBEq,Int.reduceLE,Int.reduceLT,Nat.reduceAdd,Nat.reduceBEq,Nat.reduceEqDiff,reduceIte,Nat.reduceLeDiff,Nat.reduceMul,Nat.reduceSub,reduceCtorEq])
   |false=>
    have hb:=HBF.out;rw[if_neg (by rw[beq_eq_false_iff_ne]at he;omega)]at hb;have HBF:=J1 hb;clear hb;repeat' (first|refine goS ?_|refine uJ k101 ?_|(refine go2 ?_ ?_<;>intro hh)|fail)
    all_goals refine contV_mk J9 J7 J8 ?_
    all_goals refine⟨?_,?_,HXX.out⟩
    all_goals first|exact Z2|skip
    all_goals (rw[HBF.out];simp only[go_sem, *,Nat.reduceLT,Int.reduceEq,Int.reduceBEq,Int.reduceLE,Int.reduceLT,Nat.reduceAdd,Nat.reduceBEq,Nat.reduceEqDiff,reduceIte,Nat.reduceLeDiff,Nat.reduceMul,Nat.reduceSub,reduceCtorEq])
 ·have hd0:=dF hlt
  obtain rfl:k=u:=by omega
  have HXX:=J1 hXX;clear hXX;generalize betF (agrK mi gh l m d seen) k=B at *;repeat' (first|(apply W.draw (id:=11) (lc:=[0,1,2,3,4,5]) (hot:=[(2,4)]);kernel_rfl;kernel_rfl;kernel_rfl;exact Z4)|(refine WD.cons rfl rfl ?_)|(refine WD.nil ⟨?_,?_⟩;rotate_left;simp only[tN,bN,eN,true_and])|(refine calmR rfl rfl rfl rfl rfl ?_ ?_;(focus (first|exact Z2|exact Z1)))|(refine calmE rfl rfl rfl rfl rfl ?_ ?_;(focus (first|exact Z2|exact Z1)))|(with_reducible refine calmEnd)|refine go1 ?_|(refine go2 ?_ ?_<;>intro hh)|fail)
  all_goals (simp only[rV Tryz.func90,Tryz.results90];first|exact J5|refine J6 ?_)
  exact⟨_,rfl,HXX.out⟩
end
end
section
attribute [local irreducible] roundQ RdR patC memP grownS setP cutF birF agrN agrK
open Go.Mo7 (insP befH)
def houA(mi gh:Int)(l:List Md)(m:Nat)(d:Md)(seen:Nat)(i:Nat)(n:Nat):Bool:=(List.range n).any fun n=>insP (lns7 d.loans) i ((n+1:Nat):Int)&&agrK mi gh l m d seen n
def houP(mi gh:Int)(l:List Md)(m:Nat)(d:Md)(seen:Nat)(day:Int)(i:Nat):Bool:=decide (dayA d.loans (i+1) <=day)&&houA mi gh l m d seen i 36
def houN(mi gh:Int)(l:List Md)(m:Nat)(d:Md)(seen:Nat)(day:Int):Nat:=houseF d.loans (houP mi gh l m d seen day) d.loans.length
theorem houP_no{mi gh:Int}{l:List Md}{m:Nat}{d:Md}{seen:Nat}{day:Int}{i:Nat}(h:¬dayA d.loans (i+1) <=day):houP mi gh l m d seen day i=false:=by
 unfold houP;rw[decide_eq_false h];rfl
theorem houP_yes{mi gh:Int}{l:List Md}{m:Nat}{d:Md}{seen:Nat}{day:Int}{i:Nat}(h:dayA d.loans (i+1) <=day):houP mi gh l m d seen day i=houA mi gh l m d seen i 36:=by
 unfold houP;rw[decide_eq_true h];rfl
theorem houA_next(mi gh:Int)(l:List Md)(m:Nat)(d:Md)(seen:Nat)(i n:Nat):houA mi gh l m d seen i (n+1)=(houA mi gh l m d seen i n||(insP (lns7 d.loans) i ((n+1:Nat):Int)&&agrK mi gh l m d seen n)):=by
 unfold houA;rw[List.range_succ,List.any_append];simp
theorem houA_zero(mi gh:Int)(l:List Md)(m:Nat)(d:Md)(seen:Nat)(i:Nat):houA mi gh l m d seen i 0=false:=rfl
theorem houA_yes{mi gh:Int}{l:List Md}{m:Nat}{d:Md}{seen:Nat}{i n k:Nat}(h:houA mi gh l m d seen i n=true)(hn:n <=k):houA mi gh l m d seen i k=true:=by
 unfold houA at *;rw[List.any_eq_true]at *;obtain⟨x,hx,hq⟩:=h;exact⟨x,List.mem_range.2 (by have:=List.mem_range.1 hx;omega),hq⟩
attribute [local irreducible] houA houseF dayA insP
section
variable{c:Itr}
theorem C93(cx:CxH c)(hc:c 93=none)(mi gh:Int)(sa dv bv:AV)(l:List Md)(m:Nat)(d:Md)(g:MdG sa l m d)(seen:Nat)(hsn:seen<256)(day:Int)(h:Heap)(hO:OpO l dv bv h) :
  ClR (dX c) 93 [.agg [.int .i64 mi,.int .i64 gh,sa,dv,bv],.int .i64 (m:Int),.int .i64 (seen:Int),.int .i64 day] h (valR (.int .i64 (houN mi gh l m d seen day:Int)) h):=by
 have os:=g.hm.out;obtain⟨o1,o2⟩:=hO.outs;have hml:=(List.getElem?_eq_some_iff.1 g.hd).1;obtain⟨ma,la,v1,v2,hix⟩:=g.hm.elem m d g.hd;have om:=sl_out v1;have ol:=sl_out v2;have ll0:=sl_len v2;obtain⟨rid,hdv,g1,g2,g3⟩:=hO.day g.hd;have hdc:(dayE d).cells=[dayE d]:=(slN_is _).cells;have hdt:isTuple (dayE d)=false:=(slN_is _).tup;have hdo:outV (some (dayE d))=some (dayE d):=(slN_is _).out;have hdi:=fun(k:Nat) (hk:k<d.loans.length) H=>day_idx (d:=d) hk H;have HDI:=J1 hdi;simp only[AV.cells]at hdc;simp only[isTuple]at hdt;have k101:=fun(k:Nat) hn hm0 (hO:OpO l dv bv ⟨hn,hm0⟩)=>C101 (c:=c) cx.toCxG mi gh sa dv bv o1 l g.hm m d g.hd g.sp ((k+1:Nat):Int) seen hsn hn hm0 hO;have k83:=fun(i:Nat) (hi:i<d.loans.length) (n:Nat) (hn:n <=36) h=>C83 (c:=c) cx.h83 cx.h138 cx.h164 mi gh sa dv bv o1 o2 l g.hm m d g.hd g.ln g.l1 g.l3 i hi (n:Int) (by omega) (by omega) h;subst hdv;have hib:=fun(H:Heap) (e:H.get rid=some (.rw 1 (daysE l l.length)))=>row_idx (t:=89) (e:=36) Tryz.underlying89 ty_lay36 e hml;have K101:=J1 k101;have K83:=J1 k83;have HO:=J1 hO;have HV2:=J1 v2;have HLN:=J1 g.ln;have HL3:=J1 g.l3;have h0:=houseF_zero d.loans (houP mi gh l m d seen day);have H0:=J1 h0;have HG1:=J1 g1;have HG3:=J1 g3;have HIB:=J1 hib;generalize hde:dayE d=de at *;unfold houN;clear hO v1 v2 k101 k83 g h0 hib g1 g3 hdi hde;refine ClR.walk (c:=_) hc Tryz.func93 rfl (by kernel_rfl) rfl valR_fail ?_
 try simp only[entryEnv,Nat.reduceAdd,List.nil_append,List.cons_append,emptyHp]
 repeat' (first|refine goS ?_|(refine go2 ?_ ?_<;>intro hh)|fail)
 refine W.loopV (d.loans.length) [1,2,3,4,20,21] [4] (fun k e lm hp=>e.get 22=some (.int .i64 ↑k)/\e.get 9=some (.int .i64 (houseF d.loans (houP mi gh l m d seen day) k:Int))/\HExt h hp) ?_ ?_
 ·skip
  refine⟨?_,?_,HExt.refl _⟩
  ·simp[go_sem, *]
  ·rw[H0.out];simp[go_sem, *]
 intro k e lm hp hk0 hce hcl hinv;simp only[keepE,and_true]at hce;obtain⟨c1,c2,c3,c4,c20,c21⟩:=hce;simp only[go_sem, *,Nat.reduceBEq,Nat.reduceEqDiff,reduceIte]at c1 c2 c3 c4 c20 c21;simp only[keepL,and_true]at hcl;have d4:=hcl;clear hcl;simp only[go_sem, *,Nat.reduceBEq,Nat.reduceEqDiff,reduceIte]at d4;obtain⟨h22,h9,hXX⟩:=hinv;by_cases hlt:k<d.loans.length
 ·have hd0:=dT hlt
  have hv_0:=wrap_succ hlt (by have:=HL3.out;unfold maxL;omega);obtain⟨x,hxx⟩:=get_some hlt;have hix2:=fun H=>lns_idx HV2.out hxx H;have hbx:=badL_no (HLN.out x (List.mem_of_getElem? hxx));have hhl:=houseF_lt HLN.out (houP mi gh l m d seen day) k;have hhn:=houseF_next (p:=houP mi gh l m d seen day) hxx;have hsh:intOp .shl .i64 1 x.house=some (.int .i64 ((2 ^ x.house.toNat:Nat):Int)):=by rw[intOp_shlI hbx.1.1,bitI_nat hbx.1.1 (by omega)]
  have hpw:=pow_lt hbx.1.1 (by omega);have hor:=op_or (a:=houseF d.loans (houP mi gh l m d seen day) k) (b:=2 ^ x.house.toNat) (by omega) (by omega);have hgr:hp.get rid=some (.rw 1 (daysE l l.length)):=(hXX.2 rid HG3.out).trans HG1.out;have hib:=HIB.out hp hgr;have hdi:=fun H=>HDI.out k hlt H;have HLT0:=J1 hlt;have HHN:=J1 hhn;have HXX:=J1 hXX;have HOP:=J1 (HO.out.keep hXX);clear hXX hlt hhn hhl hbx hpw hxx;obtain⟨pn,pm⟩:=hp;simp only[hp_get]at hgr;generalize houseF d.loans (houP mi gh l m d seen day) k=st at *;generalize hda:dayA d.loans (k+1)=da at *;by_cases hdy:da>day
  ·have e1:decide (da>day)=true:=by simpa using hdy
   have hpf:houP mi gh l m d seen day k=false:=houP_no (by rw[hda];omega);have hhn:=HHN.out;rw[if_neg (by rw[hpf];decide)]at hhn;have HHN:=J1 hhn;clear hhn hpf hdy hda;repeat' (first|refine goS ?_|(refine go2 ?_ ?_<;>intro hh)|fail)
   all_goals refine contV_mk J9 J7 J8 ?_
   all_goals refine⟨?_,?_,HXX.out⟩
   all_goals first|exact Z2|skip
   all_goals (rw[HHN.out];simp only[go_sem, *,Nat.reduceLT,Int.reduceEq,Int.reduceBEq,Int.reduceLE,Int.reduceLT,Nat.reduceAdd,Nat.reduceBEq,Nat.reduceEqDiff,reduceIte,Nat.reduceLeDiff,Nat.reduceMul,Nat.reduceSub,reduceCtorEq])
  ·have e1:decide (da>day)=false:=by simpa using hdy
   have hpf:houP mi gh l m d seen day k=houA mi gh l m d seen k 36:=houP_yes (by rw[hda];omega);have HPF:=J1 hpf;have hz0:=houA_zero mi gh l m d seen k;have HZ0:=J1 hz0;clear hpf hdy hda hz0;repeat' (first|refine goS ?_|(refine go2 ?_ ?_<;>intro hh)|fail)
   refine W.loopV (36) [1,2,3,4,10,11,20,21,22] [4,11] (fun j e1 lm1 hp1=>e1.get 37=some (.int .i64 ↑j)/\e1.get 9=some (.int .i64 (st:Int))/\houA mi gh l m d seen k j=false/\HExt h hp1/\OpO l (.row rid 0 l.length) bv hp1) ?_ ?_
   ·skip
    refine⟨?_,?_,HZ0.out,HXX.out,HOP.out⟩;all_goals simp[go_sem, *]
   intro j e1 lm1 hp1 hk1 hce hcl hinv;simp only[keepE,and_true]at hce;obtain⟨c1,c2,c3,c4,c10,c11,c20,c21,c22⟩:=hce;simp only[go_sem, *,Nat.reduceBEq,Nat.reduceEqDiff,reduceIte]at c1 c2 c3 c4 c10 c11 c20 c21 c22;simp only[keepL,and_true]at hcl;obtain⟨d4,d11⟩:=hcl;simp only[go_sem, *,Nat.reduceBEq,Nat.reduceEqDiff,reduceIte]at d4 d11;obtain⟨h37,h9,hno,hX1,hO1⟩:=hinv;by_cases hjt:j<36
   ·have hd1:=dT hjt
    have hv_1:=wrap_succ hjt (by unfold maxL;omega);have hd00:decide ((j:Int)<36)=true:=by simp only[decide_eq_true_eq];omega
    have k83:=K83.out k HLT0.out (j+1) (by omega) hp1;unfold ClR at k83;obtain⟨r,k83,hz,rfl,hxz⟩:=k83;have hnx:=houA_next mi gh l m d seen k j;rw[hno,Bool.false_or]at hnx;obtain⟨wn,wm⟩:=hz;have hO2:=hO1.keep hxz;have k101:=K101.out j wn wm hO2;have hag:agrN mi gh (birthN l m) (sureM d.marks ((j+1:Nat):Int)) (canM d.marks ((j+1:Nat):Int)) seen=agrK mi gh l m d seen j:=by unfold agrK;rfl
    rw[hag]at k101;unfold ClR at k101;obtain⟨r,k101,hy,rfl,hxy⟩:=k101;have HX2:=J1 (hX1.trans hxz);have HX3:=J1 ((hX1.trans hxz).trans hxy);have HO2:=J1 hO2;have HO3:=J1 (hO2.keep hxy);have HLT1:=J1 hjt;have HNX:=J1 hnx;obtain⟨pn1,pm1⟩:=hp1;clear hno hX1 hO1 hxz hnx hO2 hag hxy hjt;cases hin:insP (lns7 d.loans) k ((j+1:Nat):Int)with
    |false=>
     rw[hin]at k83;have hnx:=HNX.out;rw[hin,Bool.false_and]at hnx;have HNX:=J1 hnx;clear hnx k101;repeat' (first|refine gJ ?_|refine go1 ?_|refine uJ k83 ?_|(refine go2 ?_ ?_<;>intro hh)|fail)
     all_goals refine contV_mk (by first|assumption|exact HLT1.out|exact HLT0.out) J7 J8 ?_
     all_goals refine⟨?_,?_,HNX.out,HX2.out,HO2.out⟩
     all_goals first|exact Z2|skip
    | true =>
     rw[hin]at k83;have hnx:=HNX.out;rw[hin,Bool.true_and]at hnx;cases hok:agrK mi gh l m d seen j with
     |false=>
      rw[hok]at k101;rw[hok]at hnx;have HNX:=J1 hnx;clear hnx;repeat' (first|refine gJ ?_|refine go1 ?_|refine uJ k83 ?_|refine uJ k101 ?_|(refine go2 ?_ ?_<;>intro hh)|fail)
      all_goals refine contV_mk (by first|assumption|exact HLT1.out|exact HLT0.out) J7 J8 ?_
      all_goals refine⟨?_,?_,HNX.out,HX3.out,HO3.out⟩
      all_goals first|exact Z2|skip
     |true=>
      rw[hok]at k101;rw[hok]at hnx;have hpt:=HPF.out;rw[houA_yes hnx (by have:=HLT1.out;omega)]at hpt;have hhn:=HHN.out;rw[if_pos hpt]at hhn;have HHN:=J1 hhn;clear hnx hpt hhn;repeat' (first|refine gJ ?_|refine go1 ?_|refine uJ k83 ?_|refine uJ k101 ?_|(refine go2 ?_ ?_<;>intro hh)|fail)
      all_goals refine contV_mk J9 J7 J8 ?_
      all_goals refine⟨?_,?_,HX3.out⟩
      all_goals first|exact Z2|skip
      all_goals (rw[HHN.out];simp only[go_sem, *,Nat.reduceLT,Int.reduceEq,Int.reduceBEq,Int.reduceLE,Int.reduceLT,Nat.reduceAdd,Nat.reduceBEq,Nat.reduceEqDiff,reduceIte,Nat.reduceLeDiff,Nat.reduceMul,Nat.reduceSub,reduceCtorEq])
   ·have hd1:=dF hjt
    obtain rfl:j=36:=by omega
    have hd00:decide (((36:Nat):Int)<36)=false:=rfl;have hpf:=HPF.out;rw[hno]at hpf;have hhn:=HHN.out;rw[if_neg (by rw[hpf];decide)]at hhn;have HHN:=J1 hhn;have HX1:=J1 hX1;clear hno hX1 hO1 hpf hhn;repeat' (first|refine goS ?_|(refine go2 ?_ ?_<;>intro hh)|fail)
    all_goals refine contV_mk J9 J7 J8 ?_
    all_goals refine⟨?_,?_,HX1.out⟩
    all_goals first|exact Z2|skip
    all_goals (rw[HHN.out];simp only[go_sem, *,Nat.reduceLT,Int.reduceEq,Int.reduceBEq,Int.reduceLE,Int.reduceLT,Nat.reduceAdd,Nat.reduceBEq,Nat.reduceEqDiff,reduceIte,Nat.reduceLeDiff,Nat.reduceMul,Nat.reduceSub,reduceCtorEq])
 ·have hd0:=dF hlt
  obtain rfl:k=d.loans.length:=by omega
  have HXX:=J1 hXX;clear hXX;repeat' (first|refine goS ?_|(refine go2 ?_ ?_<;>intro hh)|fail)
  all_goals (simp only[rV Tryz.func93,Tryz.results93];first|exact J5|refine J6 ?_)
  exact⟨_,rfl,HXX.out⟩
end
end
end Go.AM
