/-
    A part of the proof: contracts of functions.
-/
import Derived.Test.YtgihdicidaipmaaGreatDoorTAY
set_option linter.unusedSectionVars false
set_option linter.unusedVariables false
set_option linter.unusedSimpArgs false
set_option maxRecDepth 100000
set_option maxHeartbeats 16000000
namespace Go.AM
open Go Go.Proofs
variable[Keep]
attribute [local irreducible] W WO WO1 WD WQ WT thenQ blockQ endR isRet retK Cl ClR
section
attribute [local irreducible] roundQ RdR patC memP grownS setP cutF birF agrN agrK betF rightB
open Go.Mo7 (or_lt)
section
variable{c:Itr}
def leafV(mi gh:Int)(A B:Nat)(bl:List Nat)(one two:Nat)(al ah cl ch:Int):Bool:=if al>ah\/maxV cl (al+1)>ch then false else leafT mi gh A B bl one two
theorem twS_nil{mi gh:Int}{A B:Nat}{bl:List Nat}{one two:Nat}{al ah cl ch:Int}:twS mi gh A B bl [] one two al ah cl ch=leafV mi gh A B bl one two al ah cl ch:=rfl
attribute [local irreducible] twS leafT
theorem L140l (cx : CxG c) (hc : c 140 = none) (mi gh : Int) (sa dv : AV) (os : outV (some sa) = some sa) (od : outV (some dv) = some dv) (l : List Md) (m : Nat) (d : Md) (hml : m < l.length) (ma la : AV) (v1 : slV mkC ma = some d.marks) (v2 : slV lnC la = some d.loans) (A B : Nat) (hA : A < 256) (hB : B < 256) (dayA dayB : Int) (rid pid : Nat) (els : List AV) (hel : els[m]? = some (.ptr pid 0)) (im is io ino i1 i2 : Nat)
  (one two:Nat) (al ah cl ch:Int) (h1:one<256) (h2:two<256) (ba:-10000 <=al/\al <=10000) (hn:Nat) (hm:Mp Blk) (hE:EnvT mi gh sa dv l m d ma la A B dayA dayB rid pid els im is io ino i1 i2 ⟨hn,hm⟩) :
  ClR (dX c) 140 [.int .i64 (d.marks.length:Int),.int .i64 (one:Int),.int .i64 (two:Int),.agg [.int .i64 al,.int .i64 ah],.agg [.int .i64 cl,.int .i64 ch],.ptr im 0,.ptr is 0,.ptr io 0,.ptr ino 0,.ptr i1 0,.ptr i2 0] ⟨hn,hm⟩ (valR (.bool (leafV mi gh A B (birthN l m) one two al ah cl ch)) ⟨hn,hm⟩):=by
 have om:=sl_out v1;have ol:=sl_out v2;have lm0:=sl_len v1;have hd0:decide ((d.marks.length:Int)<(d.marks.length:Int))=false:=by simp
 have hw1:IntKind.i64.wrap (al+1)=al+1:=wrap_small (by omega) (by omega);obtain⟨a1,a2,a3,a4,a5,a6,a7,a8⟩:=id hE.lt;simp only at a1 a2 a3 a4 a5 a6 a7 a8;have gm:hm.get im=_:=hE.gm;have go:hm.get io=_:=hE.go;have gn:hm.get ino=_:=hE.gn;have g1:hm.get i1=_:=hE.g1;have g2:hm.get i2=_:=hE.g2;have gr:hm.get rid=_:=hE.gr;have gp:hm.get pid=_:=hE.gp;have hib:=fun hx (e:Heap.get hx rid=some (.rw 1 els))=>row_idx (t:=111) (e:=161) Tryz.underlying111 ty_lay161 e hml;have f1:(hn==im)=false:=by rw[beq_eq_false_iff_ne];omega
 have f2:(hn+1==im)=false:=by rw[beq_eq_false_iff_ne];omega
 have f3:(hn+1+1==im)=false:=by rw[beq_eq_false_iff_ne];omega
 have f4:(hn==io)=false:=by rw[beq_eq_false_iff_ne];omega
 have f5:(hn+1==io)=false:=by rw[beq_eq_false_iff_ne];omega
 have f6:(hn+1+1==io)=false:=by rw[beq_eq_false_iff_ne];omega
 have f7:(hn==ino)=false:=by rw[beq_eq_false_iff_ne];omega
 have f8:(hn+1==ino)=false:=by rw[beq_eq_false_iff_ne];omega
 have f9:(hn+1+1==ino)=false:=by rw[beq_eq_false_iff_ne];omega
 have fa:(hn==rid)=false:=by rw[beq_eq_false_iff_ne];omega
 have fb:(hn+1==rid)=false:=by rw[beq_eq_false_iff_ne];omega
 have fc:(hn+1+1==rid)=false:=by rw[beq_eq_false_iff_ne];omega
 have hx0:∀b:Bool,HExt ⟨hn,hm⟩ ⟨hn+1+1+1,(((hm.set hn (.var [.int .i64 (one:Int)])).set (hn+1) (.var [.int .i64 (two:Int)])).set (hn+1+1) (.var [.bool false])).set (hn+1+1) (.var [.bool b])⟩:=fun b=>⟨by simp only;omega,fun id hid=>by
  have hid':id<hn:=hid;exact J10⟩
 have HX0:=J1 hx0;unfold leafV;cases c1:decide (al>ah)with
 |true=>
  have c1':al>ah:=by simpa using c1
  rw[if_pos (.inl c1')];clear hE hx0 c1';refine ClR.walk (c:=_) hc Tryz.func140 rfl (by kernel_rfl) rfl valR_fail ?_
  try simp only[entryEnv,Nat.reduceAdd,List.nil_append,List.cons_append,emptyHp]
  repeat' (first|refine gJ ?_|refine go1 ?_|(refine go2 ?_ ?_<;>intro hh)|fail)
  all_goals (simp only[rV Tryz.func140,Tryz.results140];first|exact J5|refine J6 ?_)
  exact⟨_,rfl,HX0.out false⟩
 | false =>
  have c1':¬al>ah:=by simpa using c1
  cases c2:decide (maxV cl (al+1)>ch)with
  |true=>
   have c2':maxV cl (al+1)>ch:=by simpa using c2
   rw[if_pos (.inr c2')];clear hE hx0 c1' c2';refine ClR.walk (c:=_) hc Tryz.func140 rfl (by kernel_rfl) rfl valR_fail ?_
   try simp only[entryEnv,Nat.reduceAdd,List.nil_append,List.cons_append,emptyHp]
   repeat' (first|refine gJ ?_|refine go1 ?_|(refine go2 ?_ ?_<;>intro hh)|fail)
   all_goals (simp only[rV Tryz.func140,Tryz.results140];first|exact J5|refine J6 ?_)
   exact⟨_,rfl,HX0.out false⟩
  | false =>
   have c2':¬maxV cl (al+1)>ch:=by simpa using c2
   rw[if_neg (by rintro(q|q);exact c1' q;exact c2' q)];have k141a:=fun x (hx:x<256) h=>C141 cx.h141 cx.h165 cx.h166 cx.h146 cx.h171 mi gh sa dv (.row rid 0 l.length) os od rfl A x x hA hx hx h;have k141b:=fun x (hx:x<256) h=>C141 cx.h141 cx.h165 cx.h166 cx.h146 cx.h171 mi gh sa dv (.row rid 0 l.length) os od rfl B x x hB hx hx h;have K141a:=J1 k141a;have K141b:=J1 k141b;have hfa:=fold_two mi gh A B one two (birthN l m);have HFA:=J1 hfa;unfold birthN at *;clear hE hx0 c1' c2' k141a k141b hfa;refine ClR.walk (c:=_) hc Tryz.func140 rfl (by kernel_rfl) rfl valR_fail ?_
   try simp only[entryEnv,Nat.reduceAdd,List.nil_append,List.cons_append,emptyHp]
   repeat' (first|refine gJ ?_|refine go1 ?_|(refine go2 ?_ ?_<;>intro hh)|fail)
   refine W.rangeSt (fid:=137) (first:=[.ptr pid 0]) (capt:=[]) SamI (EndD ⟨hn,hm⟩ (hn+1+1) (hn+1+1+1)) (foldS (stepT mi gh A B one two) (memP (birF l m) 256) ()) (by rfl) ?_ ?_ ?_ ?_ ?_
   ·first|exact Z2|exact Z1
   ·refine C137 _ _ _ cx.h137 (birF l m) pid (hn+1+1+1) ?_ ?_ () _ ⟨rfl,fun _=>rfl⟩
    ·intro s h hs
     rw[hs.2 pid]
     (simp only[Heap.get_new,Heap.get_put,hp_get,Mp.get_set,reduceIte];repeat (first|rw[if_pos rfl]|rw[if_neg (by omega)]))
     exact gp
    ·intro n u h hn1 hn2 hs
     have hL0:=hs.2 (hn+1+1+1);rw[Heap.get_new,if_pos rfl]at hL0;obtain⟨er,hER,hL⟩:∃er,er=_/\h.get (hn+1+1+1)=some (.loop 140 er _ _ _ .ready none):=⟨_,rfl,hL0⟩;clear hL0;have e7:er.get 7=some (.ptr io 0):=by rw[hER,Mp.get_map];simp[go_sem, *,noBox]
     have e9:er.get 9=some (.ptr i1 0):=by rw[hER,Mp.get_map];simp[go_sem, *,noBox]
     have ea:er.get 10=some (.ptr i2 0):=by rw[hER,Mp.get_map];simp[go_sem, *,noBox]
     have ec:er.get 12=some (.ptr hn 0):=by rw[hER,Mp.get_map];simp[go_sem, *,noBox]
     have ed:er.get 13=some (.ptr (hn+1) 0):=by rw[hER,Mp.get_map];simp[go_sem, *,noBox]
     have ee:er.get 16=some (.ptr (hn+1+1) 0):=by rw[hER,Mp.get_map];simp[go_sem, *,noBox]
     have w1:h.get hn=some (.var [.int .i64 (one:Int)]):=by rw[hs.2];exact J10
     have w2:h.get (hn+1)=some (.var [.int .i64 (two:Int)]):=by rw[hs.2];exact J10
     have w3:h.get (hn+1+1)=some (.var [.bool false]):=by rw[hs.2];exact J10
     have w4:h.get io=some (.var [.int .i64 mi,.int .i64 gh,sa,dv,.row rid 0 l.length]):=by rw[hs.2];(simp only[Heap.get_new,Heap.get_put,hp_get,Mp.get_set,reduceIte];repeat (first|rw[if_pos rfl]|rw[if_neg (by omega)]));exact go
     have w5:h.get i1=some (.var [.int .i64 (A:Int),.int .i64 dayA]):=by rw[hs.2];(simp only[Heap.get_new,Heap.get_put,hp_get,Mp.get_set,reduceIte];repeat (first|rw[if_pos rfl]|rw[if_neg (by omega)]));exact g1
     have w6:h.get i2=some (.var [.int .i64 (B:Int),.int .i64 dayB]):=by rw[hs.2];(simp only[Heap.get_new,Heap.get_put,hp_get,Mp.get_set,reduceIte];repeat (first|rw[if_pos rfl]|rw[if_neg (by omega)]));exact g2
     obtain⟨hs2,hs3⟩:=hs;have hlow:∀id,id<hn->h.get id=hm.get id:=fun id hid=>by
      rw[hs3 id];exact J10
     have hnx:hn+1+1+1+1=h.next:=by rw[hs2];rfl
     have HNX:=J1 hnx;have HLOW:=J1 hlow;have o3:=op_or (a:=n) (b:=one) (by omega) (by omega);have o4:=op_or (a:=n) (b:=two) (by omega) (by omega);have k141a:=K141a.out (n ||| one) (or_lt hn1 h1);have k141b:=K141b.out (n ||| two) (or_lt hn1 h2);have hst:stepT mi gh A B one two n u=if (rightB mi gh A (n ||| one) (n ||| one)&&rightB mi gh B (n ||| two) (n ||| two))=true then ((),false)else ((),true):=rfl
     have HST:=J1 hst;generalize rightB mi gh A (n ||| one) (n ||| one)=ra at *;generalize rightB mi gh B (n ||| two) (n ||| two)=rb at *;generalize n ||| one=x1 at *;generalize n ||| two=x2 at *;clear hlow hst hnx gm go gn g1 g2 gr gp;generalize Heap.new _ _=H0 at *;refine round_ok' hL rfl ?_;have HL:=J1 hL;clear hL hER;repeat' (first|refine goS ?_|(refine go2 ?_ ?_<;>intro hh)|fail)
     rintro⟨qn,qm⟩ hqn hqg hqL;have z1:=(hqg hn (by omega)).trans w1;have z2:=(hqg (hn+1) (by omega)).trans w2;have z3:=(hqg (hn+1+1) (by omega)).trans w3;have z4:=(hqg io (by omega)).trans w4;have z5:=(hqg i1 (by omega)).trans w5;have z6:=(hqg i2 (by omega)).trans w6;have HQN:=J1 hqn;have HQG:=J1 hqg;have HQL:=J1 hqL;simp only[hp_get]at z1 z2 z3 z4 z5 z6;clear hqn hqg hqL w1 w2 w3 w4 w5 w6;cases hr:(ra&&rb)with
     | true =>
      have hst:=HST.out;rw[hr,if_pos rfl]at hst;have HST2:=J1 hst;simp only[Bool.and_eq_true]at hr;obtain⟨rfl,rfl⟩:=hr;clear hst HST;repeat' (first|refine gJ ?_|refine go1 ?_|refine uJ (k141a _) ?_|refine uJ (k141b _) ?_|(refine go2 ?_ ?_<;>intro hh)|fail)
      refine round_end HQL.out ?_ HST2.out ?_
      ·exact J10
      refine⟨?_,⟨?_,?_⟩,_,_,_,_,_,(Heap.get_put ..).trans (if_pos rfl)⟩
      ·exact J10
      ·have h1:=HNX.out
       have h2:=HQN.out;simp only at h2;simp only[Heap.put];omega
      ·intro id hid
       have hid':id<hn:=hid;rw[Heap.get_put,if_neg (by omega),hp_get,Mp.get_set,if_neg (by omega),<-hp_get (n:=qn),HQG.out id (by omega),HLOW.out id hid'];rfl
     | false =>
      have hst:=HST.out;rw[hr,if_neg (by decide)]at hst;have HST2:=J1 hst;clear hst HST;cases ra with
      | false =>
       clear hr;repeat' (first|refine gJ ?_|refine go1 ?_|refine uJ (k141a _) ?_|refine uJ (k141b _) ?_|(refine go2 ?_ ?_<;>intro hh)|fail)
       refine round_go HQL.out rfl HST2.out ?_;refine⟨?_,?_⟩
       ·exact HQN.out.trans hs2
       ·intro id
        by_cases h5:id=hn+1+1+1
        ·subst h5
         rw[Heap.get_put,if_pos rfl,<-hs3,HL.out]
        ·rw[Heap.get_put,if_neg (fun e=>h5 e.symm)]
         exact(HQG.out id h5).trans (hs3 id)
      | true =>
       have hrb:rb=false:=by simpa using hr
       subst hrb;clear hr;repeat' (first|refine gJ ?_|refine go1 ?_|refine uJ (k141a _) ?_|refine uJ (k141b _) ?_|(refine go2 ?_ ?_<;>intro hh)|fail)
       refine round_go HQL.out rfl HST2.out ?_;refine⟨?_,?_⟩
       ·exact HQN.out.trans hs2
       ·intro id
        by_cases h5:id=hn+1+1+1
        ·subst h5
         rw[Heap.get_put,if_pos rfl,<-hs3,HL.out]
        ·rw[Heap.get_put,if_neg (fun e=>h5 e.symm)]
         exact(HQG.out id h5).trans (hs3 id)
   ·intro s h hs
    rw[hs.2 (hn+1+1+1),Heap.get_new,if_pos rfl]
   ·intro hx h hs
    have hag0:=HFA.out;rw[hx]at hag0;have hag:leafT mi gh A B (memP (birF l m) 256) one two=false:=by simpa using hag0.symm
    clear hag0;rw[hag];obtain⟨hs2,hs3⟩:=hs;generalize hput:Heap.put h _ _=hz;obtain⟨zn,zm⟩:=hz;have z1:zm.get (hn+1+1)=some (.var [.bool false]):=by
     rw[<-hp_get (n:=zn),<-hput,Heap.get_put,if_neg (by simp only;omega),hs3];exact J10
    have z3:HExt ⟨hn,hm⟩ ⟨zn,zm⟩:=by
     rw[<-hput];refine⟨by simp only[Heap.put,hs2,Heap.new];omega,fun id hid=>?_⟩;have hid':id<hn:=hid;rw[Heap.get_put,if_neg (by simp only;omega),hs3 id];exact J10
    have z4:HExt ⟨hn,hm⟩ ⟨zn,zm.set (hn+1+1) (.var [.bool false])⟩:=⟨z3.1,fun id hid=>by
     have hid':id<hn:=hid;rw[hp_get,Mp.get_set,if_neg (by omega)];exact z3.2 id hid⟩
    have qZ3:=J1 z4;clear hput hs2 hs3 z3 z4 hx hag gm go gn g1 g2 gr gp;simp only[bN,tN];repeat' (first|refine goS ?_|(refine go2 ?_ ?_<;>intro hh)|fail)
    all_goals (simp only[rV Tryz.func140,Tryz.results140];first|exact J5|refine J6 ?_)
    exact⟨_,rfl,qZ3.out⟩
   ·intro hx h hs
    have hag0:=HFA.out;rw[hx]at hag0;have hag:leafT mi gh A B (memP (birF l m) 256) one two=true:=by simpa using hag0.symm
    clear hag0;rw[hag];obtain⟨hs1,hs2,f,e',pl,a,b,zL⟩:=hs;refine⟨f,e',pl,a,b,.done,zL,(fun e=>by cases e),?_⟩;generalize hput:Heap.put h _ _=hz;obtain⟨zn,zm⟩:=hz;have z1:zm.get (hn+1+1)=some (.var [.bool true]):=by
     rw[<-hp_get (n:=zn),<-hput,Heap.get_put,if_neg (by simp only;omega)];exact hs1
    have z3:HExt ⟨hn,hm⟩ ⟨zn,zm⟩:=by
     rw[<-hput];refine⟨hs2.1,fun id hid=>?_⟩;have hid':id<hn:=hid;rw[Heap.get_put,if_neg (by simp only;omega),hs2.2 id hid]
    have qZ3:=J1 z3;clear hput hs1 hs2 z3 hx hag zL gm go gn g1 g2 gr gp;simp only[tR,bR,eR,true_and];all_goals (simp only[rV Tryz.func140,Tryz.results140];first|exact J5|refine J6 ?_)
    exact⟨_,rfl,qZ3.out⟩
end
end
section
attribute [local irreducible] roundQ RdR patC memP grownS setP cutF birF agrN agrK betF rightB leafT leafV untP
structure CxT(c:Itr):Prop extends CxH c where
 h140:c 140=none
 h132:c 132=none
 h97:c 97=none
section
variable{c:Itr}
theorem C140(cx:CxT c)(mi gh:Int)(sa dv:AV)(os:outV (some sa)=some sa)(od:outV (some dv)=some dv)(l:List Md)(m:Nat)(d:Md)(hml:m<l.length)(ma la:AV)(v1:slV mkC ma=some d.marks)(v2:slV lnC la=some d.loans)(hmk:∀x∈d.marks,badM x=false)(A B:Nat)(hA:A<256)(hB:B<256)(dayA dayB:Int)(rid pid:Nat)(els:List AV)(hel:els[m]? =some (.ptr pid 0))(im is io ino i1 i2:Nat) :
  ∀(ms:List Mk) (k:Nat),d.marks.drop k=ms->k <=d.marks.length->∀(one two:Nat) (al ah cl ch:Int) (h:Heap),one<256->two<256->(-10000 <=al/\al <=10000)->(-10000 <=ah/\ah <=10000)->(-10000 <=cl/\cl <=10000)->(-10000 <=ch/\ch <=10000)->EnvT mi gh sa dv l m d ma la A B dayA dayB rid pid els im is io ino i1 i2 h->
   ClR (dX c) 140 [.int .i64 (k:Int),.int .i64 (one:Int),.int .i64 (two:Int),.agg [.int .i64 al,.int .i64 ah],.agg [.int .i64 cl,.int .i64 ch],.ptr im 0,.ptr is 0,.ptr io 0,.ptr ino 0,.ptr i1 0,.ptr i2 0] h (valR (.bool (twS mi gh A B (birthN l m) ms one two al ah cl ch)) h)
 | [], k, hk, hkl, one, two, al, ah, cl, ch, ⟨hn, hm⟩, h1, h2, ba, bb, bc, bd, hE => by
  have:k=d.marks.length:=by
   have:=congrArg List.length hk;simp at this;omega
  subst this;rw[twS_nil];exact L140l cx.toCxG cx.h140 mi gh sa dv os od l m d hml ma la v1 v2 A B hA hB dayA dayB rid pid els hel im is io ino i1 i2 one two al ah cl ch h1 h2 ba hn hm hE
 | x :: ms, k, hk, hkl, one, two, al, ah, cl, ch, ⟨hn, hm⟩, h1, h2, ba, bb, bc, bd, hE => by
  have hx:d.marks[k]? =some x:=by
   have:=congrArg (fun l=>l[0]?) hk;simpa using this
  have hb:=badM_no (hmk x (List.mem_of_getElem? hx));have hk2:d.marks.drop (k+1)=ms:=by
   rw[<-List.drop_drop,hk];rfl
  have hkl2:=(List.getElem?_eq_some_iff.1 hx).1;rw[twS_cons];exact L140s cx.h140 cx.h132 mi gh sa dv l m d ma la v1 v2 A B dayA dayB rid pid els im is io ino i1 i2 x ms hb.1 hb.2 k hx (fun one two al ah cl ch=>twS mi gh A B (birthN l m) ms one two al ah cl ch)
   (fun one two al ah cl ch h a1 a2 a3 a4 a5 a6 a7=>C140 cx mi gh sa dv os od l m d hml ma la v1 v2 hmk A B hA hB dayA dayB rid pid els hel im is io ino i1 i2 ms (k+1) hk2 (by omega) one two al ah cl ch h a1 a2 a3 a4 a5 a6 a7) one two al ah cl ch h1 h2 ba bb bc bd hn hm hE
def twB(b:Bk)(m:Nat)(d:Md)(A:Nat)(dayA:Int)(B:Nat)(dayB:Int):Bool:=twS b.miss b.ghost A B (birthN b.moulds m) d.marks 0 0 1 (untP d.loans dayA) 1 (untP d.loans dayB)
attribute [local irreducible] twS
theorem C97(cx:CxT c)(b:Bk)(sa dv bv:AV)(hbk:bookB b=true)(hm:MdsV sa b.moulds)(m:Nat)(d:Md)(hd:b.moulds[m]? =some d)(A B:Nat)(hA:A<256)(hB:B<256)(dayA dayB:Int)(hn:Nat)(hm0:Mp Blk)(hO:OpO b.moulds dv bv ⟨hn,hm0⟩) :
  ClR (dX c) 97 [.agg [.int .i64 b.miss,.int .i64 b.ghost,sa,dv,bv],.int .i64 (m:Int),.agg [.int .i64 (A:Int),.int .i64 dayA],.agg [.int .i64 (B:Int),.int .i64 dayB]] ⟨hn,hm0⟩ (valR (.bool (twB b m d A dayA B dayB)) ⟨hn,hm0⟩):=by
 have g:=MdG.of hm hbk hd;have os:=hm.out;obtain⟨o1,o2⟩:=hO.outs;have hml:=(List.getElem?_eq_some_iff.1 hd).1;obtain⟨ma,la,v1,v2,hix⟩:=hm.elem m d hd;have om:=sl_out v1;have ol:=sl_out v2;have hpt:=mdOk_parts (n:=m) (by have:=hm.max;omega) (book_ok hbk m d hml hd);have hmk:=hpt.2.2.2.2.2.2.2.1;obtain⟨rid,pid,els,⟨hrow,gr,hel,gp,l1,l2⟩⟩:=hO.bir hml;subst hrow;simp only at l1 l2;obtain⟨m5,hm5⟩:∃m5:Mp Blk,m5=(((((hm0.set hn (.var [.int .i64 b.miss,.int .i64 b.ghost,sa,dv,.row rid 0 b.moulds.length])).set (hn+1) (.var [.int .i64 (m:Int)])).set (hn+1+1) (.var [.int .i64 (A:Int),.int .i64 dayA])).set (hn+1+1+1) (.var [.int .i64 (B:Int),.int .i64 dayB])).set (hn+1+1+1+1) (.var [.int .i64 0,.int .i64 0,.int .i64 0,.nilslice,.nilslice])).set (hn+1+1+1+1) (.var [.int .i64 d.parent,.int .i64 d.clo,.int .i64 d.chi,ma,la]):=⟨_,rfl⟩;have hx5:HExt ⟨hn,hm0⟩ ⟨hn+1+1+1+1+1,m5⟩:=⟨by simp only;omega,fun id hid=>by
  have hid':id<hn:=hid;rw[hm5];exact J10⟩
 obtain⟨ua,hua,hua2⟩:=untP_nat g.ln g.l3 dayA;obtain⟨ub,hub,hub2⟩:=untP_nat g.ln g.l3 dayB;have k139a:=C139 (c:=c) cx.h139 cx.h138 cx.h164 b.miss b.ghost sa dv _ b.moulds hm m d hd g.ln g.l1 g.l3 dayA _ (hO.keep hx5);unfold ClR at k139a;obtain⟨r,k139a,⟨un,um⟩,rfl,hxu⟩:=k139a;have k139b:=C139 (c:=c) cx.h139 cx.h138 cx.h164 b.miss b.ghost sa dv _ b.moulds hm m d hd g.ln g.l1 g.l3 dayB ⟨un,um⟩ ((hO.keep hx5).keep hxu);unfold ClR at k139b;obtain⟨r,k139b,⟨wn,wm⟩,rfl,hxw⟩:=k139b;have hun:hn+1+1+1+1+1 <=un:=hxu.1;have hwn:un <=wn:=hxw.1;have p4:m5.get hn=some (.var [.int .i64 b.miss,.int .i64 b.ghost,sa,dv,.row rid 0 b.moulds.length]):=by rw[hm5];exact J10
 have p5:m5.get (hn+1)=some (.var [.int .i64 (m:Int)]):=by rw[hm5];exact J10
 have p6:m5.get (hn+1+1)=some (.var [.int .i64 (A:Int),.int .i64 dayA]):=by rw[hm5];exact J10
 have p7:m5.get (hn+1+1+1)=some (.var [.int .i64 (B:Int),.int .i64 dayB]):=by rw[hm5];exact J10
 have p9:m5.get (hn+1+1+1+1)=some (.var [.int .i64 d.parent,.int .i64 d.clo,.int .i64 d.chi,ma,la]):=by rw[hm5];exact J10
 have q4:um.get hn=_:=(hxu.2 hn (by simp only;omega)).trans p4;have q5:um.get (hn+1)=_:=(hxu.2 (hn+1) (by simp only;omega)).trans p5;have q7:um.get (hn+1+1+1)=_:=(hxu.2 (hn+1+1+1) (by simp only;omega)).trans p7;have hxx:∀id,id<hn+1+1+1+1+1->wm.get id=m5.get id:=fun id hid=>(hxw.2 id (by simp only;omega)).trans (hxu.2 id hid);have hfin:HExt ⟨hn,hm0⟩ ⟨wn,wm⟩:=(hx5.trans hxu).trans hxw;obtain⟨m6,hm6⟩:∃m6:Mp Blk,m6=(wm.set wn (.var [.nilfunc])).set wn (.var [.func (.func 140) [] [.ptr (hn+1+1+1+1) 0,.ptr wn 0,.ptr hn 0,.ptr (hn+1) 0,.ptr (hn+1+1) 0,.ptr (hn+1+1+1) 0]]):=⟨_,rfl⟩;have hx6:HExt ⟨wn,wm⟩ ⟨wn+1,m6⟩:=⟨by simp only;omega,fun id hid=>by
  have hid':id<wn:=hid;rw[hm6];exact J10⟩
 have hE:EnvT b.miss b.ghost sa dv b.moulds m d ma la A B dayA dayB rid pid els (hn+1+1+1+1) wn hn (hn+1) (hn+1+1) (hn+1+1+1) ⟨wn+1,m6⟩:=by
  have low:∀id,id<hn+1+1+1+1+1->Heap.get ⟨wn+1,m6⟩ id=m5.get id:=fun id hid=>(hx6.2 id (by simp only;omega)).trans (hxx id hid);refine⟨(low _ (by omega)).trans p9,?_,(low _ (by omega)).trans p4,(low _ (by omega)).trans p5,(low _ (by omega)).trans p6,(low _ (by omega)).trans p7,?_,?_,?_⟩
  ·rw[hm6]
   exact J10
  ·exact(hx6.2 rid (by simp only;omega)).trans ((hfin.2 rid l1).trans gr)
  ·exact(hx6.2 pid (by simp only;omega)).trans ((hfin.2 pid l2).trans gp)
  ·simp only
   omega
 have k140:=C140 cx b.miss b.ghost sa dv os o1 b.moulds m d hml ma la v1 v2 hmk A B hA hB dayA dayB rid pid els hel (hn+1+1+1+1) wn hn (hn+1) (hn+1+1) (hn+1+1+1) d.marks 0 rfl (Nat.zero_le _) 0 0 1 (untP d.loans dayA) 1 (untP d.loans dayB) ⟨wn+1,m6⟩ (by omega) (by omega) (by omega) (by omega) (by omega) (by omega) hE;unfold ClR at k140;obtain⟨r,k140,hz,rfl,hxz⟩:=k140;have hre:twB b m d A dayA B dayB=twS b.miss b.ghost A B (birthN b.moulds m) d.marks 0 0 1 (untP d.loans dayA) 1 (untP d.loans dayB):=rfl;rw[hre];generalize twS b.miss b.ghost A B (birthN b.moulds m) d.marks 0 0 1 (untP d.loans dayA) 1 (untP d.loans dayB)=res at *;have HZ:=J1 ((hfin.trans hx6).trans hxz);rw[hm6]at k140;have hc:=cx.h97;have hz0:((0:Nat):Int)=0:=rfl;rw[hz0]at k140;generalize untP d.loans dayA=UA at *;generalize untP d.loans dayB=UB at *;rw[hm5]at k139a p4 p5 p6 p7 p9;clear hE hx5 hx6 hxu hxw hfin hxx hm6 hxz hun hwn hre hO hel gr gp g hpt hmk v1 v2 hm hd hua hub hbk hm5 hua2 hub2;refine ClR.walk (c:=_) hc Tryz.func97 rfl (by kernel_rfl) rfl valR_fail ?_
 try simp only[entryEnv,Nat.reduceAdd,List.nil_append,List.cons_append,emptyHp]
 repeat' (first|(apply W.draw (id:=2) (lc:=[0,1,2,3,4,5,6,7,8,9,10,11]) (hot:=[(4,5),(4,6),(4,8)]);kernel_rfl;kernel_rfl;kernel_rfl;exact Z4)|(apply WD.cons (o:=⟨some 27,_,_,_,_,none⟩);exact rfl;exact rfl)|(apply WD.cons (o:=⟨some 28,_,_,_,_,none⟩);exact rfl;exact rfl)|(apply WD.cons (o:=⟨some 10,_,_,_,_,none⟩);exact rfl;exact rfl)|(apply WD.cons (o:=⟨some 11,_,_,_,_,none⟩);exact rfl;exact rfl)|(refine WD.cons rfl rfl ?_)|(refine WD.nil ⟨?_,?_⟩;rotate_left;simp only[tN,bN,eN,true_and])|(refine calmR rfl rfl rfl rfl rfl ?_ ?_;(focus (first|exact Z2|exact Z1)))|(refine calmE rfl rfl rfl rfl rfl ?_ ?_;(focus (first|exact Z2|exact Z1)))|(with_reducible refine calmEnd)|refine go1 ?_|refine uJ k139a ?_|refine uJ k139b ?_|refine uJ k140 ?_|(refine go2 ?_ ?_<;>intro hh)|fail)
 all_goals (simp only[rV Tryz.func97,Tryz.results97];first|exact J5|refine J6 ?_)
 exact⟨_,rfl,HZ.out⟩
end
end
end Go.AM
