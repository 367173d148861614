/-
    A part of the proof: contracts of functions.
-/
import Derived.Test.YtgihdicidaipmaaGreatDoorTAX
import Derived.Test.YtgihdicidaipmaaGreatDoorTAP
set_option linter.unusedSectionVars false
set_option linter.unusedVariables false
set_option linter.unusedSimpArgs false
set_option maxRecDepth 100000
set_option maxHeartbeats 16000000
namespace Go.AM
open Go Go.Proofs
variable[Keep]
attribute [local irreducible] W WO WO1 WD WQ WT thenQ blockQ endR isRet retK Cl ClR
section
attribute [local irreducible] roundQ RdR patC memP grownS setP cutF birF agrN sureM canM withB
def spanP(l:List (Int×Int)):List AV:=l.map fun p=>.agg [.int .i64 p.1,.int .i64 p.2]
theorem spanP_app(l:List (Int×Int))(a b:Int):spanP (l++[(a,b)])=spanP l++[.agg [.int .i64 a,.int .i64 b]]:=by simp[spanP]
theorem spanP_len(l:List (Int×Int)):(spanP l).length=l.length:=by simp[spanP]
theorem spanP_sz{l:List (Int×Int)}:∀e∈spanP l,e.cells.length=2:=fun e he=>by
 obtain⟨n,_,rfl⟩:=List.mem_map.1 he;rfl
theorem spanP_flat{l:List (Int×Int)}:∀e∈spanP l,∀x∈e.cells,x.flat=true/\x.one=true:=fun e he x hx=>by
 obtain⟨n,_,rfl⟩:=List.mem_map.1 he;simp only[AV.cells,List.mem_cons,List.not_mem_nil,or_false]at hx;rcases hx with rfl|rfl<;>exact⟨rfl,rfl⟩
def provX(mi gh:Int)(l:List Md)(m:Nat)(ms:List Mk)(s:Int)(seen k:Nat)(x:Mk):Int×Int:=
 (if withB mi gh l m ms s seen k x true=true then x.lo else maxV x.lo (s+1),if withB mi gh l m ms s seen k x false=true then x.hi else minV x.hi s)
def provP(mi gh:Int)(l:List Md)(m:Nat)(ms:List Mk)(s:Int)(seen:Nat):Nat->List (Int×Int)
 |0=>[]
 |k+1=>provP mi gh l m ms s seen k++[provX mi gh l m ms s seen k (ms.getD k ⟨0,0,0⟩)]
theorem provP_zero(mi gh:Int)(l:List Md)(m:Nat)(ms:List Mk)(s:Int)(seen:Nat):spanP (provP mi gh l m ms s seen 0)=[]:=rfl
theorem provP_len(mi gh:Int)(l:List Md)(m:Nat)(ms:List Mk)(s:Int)(seen:Nat):∀k,(provP mi gh l m ms s seen k).length=k
 |0=>rfl
 |k+1=>by simp[provP,provP_len mi gh l m ms s seen k]
theorem provP_next{mi gh:Int}{l:List Md}{m:Nat}{ms:List Mk}{s:Int}{seen k:Nat}{x:Mk}(h:ms[k]? =some x):provP mi gh l m ms s seen (k+1)=provP mi gh l m ms s seen k++[(if withB mi gh l m ms s seen k x true=true then x.lo else maxV x.lo (s+1),if withB mi gh l m ms s seen k x false=true then x.hi else minV x.hi s)]:=by
 have:ms.getD k ⟨0,0,0⟩=x:=by rw[List.getD,h];rfl
 conv=>lhs;unfold provP
 rw[this];rfl
def provV(b:Bk)(m s seen:Int):AV:=
 if (bookB b&&(numB b.moulds m&&inB s 1 36&&inB seen 0 255))=true then
  if allDays b.moulds=true then
   if agrN b.miss b.ghost (birthN b.moulds m.toNat) (sureM (mdAt b m).marks s) (canM (mdAt b m).marks s) seen.toNat=true then .tuple [slN (spanP (provP b.miss b.ghost b.moulds m.toNat (mdAt b m).marks s seen.toNat (mdAt b m).marks.length)),.int .i64 0]
   else .tuple [.nilslice,.int .i64 5]
  else .tuple [.nilslice,.int .i64 7]
 else .tuple [.nilslice,.int .i64 2]
attribute [local irreducible] provP spanP
section
variable{c:Itr}
theorem C99(cx:CxB c)(hc:c 99=none){a:AV}{cs:List AV}{b:Bk}(hb:bkV a=some b)(ha:a= .agg cs)(m s w:Int)(i j k n:Nat)(h:Heap)(g0:h.get i=some (.var cs))(g1:h.get j=some (.var [.int .i64 m]))(g2:h.get k=some (.var [.int .i64 s]))(g3:h.get n=some (.var [.int .i64 w])) :
  Cl (dX c) 99 [.ptr i 0,.ptr j 0,.ptr k 0,.ptr n 0] h (.ret (.bool (numB b.moulds m&&inB s 1 36&&inB w 0 255)) h none):=by
 refine ClR.cl ?_;have k76:=fun h=>K76 (X:=dX c) cx.h76 hb m h;have h77:(dX c).intr 77=some (pureFn sp77):=cx.h77;have h100:(dX c).intr 100=some (pureFn sp100):=cx.h100;subst ha;obtain⟨hn,hm⟩:=h;obtain⟨sa,hsa,hmd⟩:=bk_is hb;have hsa:=AV.agg.inj hsa;subst hsa;have os:=hmd.out;simp only[hp_get]at g0 g1 g2 g3;clear hb hmd;cases h1:numB b.moulds m
 ·rw[h1]at k76
  refine ClR.walk (c:=_) hc Tryz.func99 rfl (by kernel_rfl) rfl (fun e=>by cases e) ?_
  try simp only[entryEnv,Nat.reduceAdd,List.nil_append,List.cons_append,emptyHp]
  repeat' (first|refine gJ ?_|refine go1 ?_|refine uJ (k76 _) ?_|refine uJ (K77 h77 _ _) ?_|refine uJ (K100 h100 _ _) ?_|(refine go2 ?_ ?_<;>intro hh)|fail)
  all_goals (simp only[rV Tryz.func99,Tryz.results99];first|exact J5|refine J6 ?_)
  all_goals simp[isR,frzRes,dX_frz,dFrz]
 ·rw[h1]at k76
  cases h2:inB s 1 36
  ·skip
   refine ClR.walk (c:=_) hc Tryz.func99 rfl (by kernel_rfl) rfl (fun e=>by cases e) ?_
   try simp only[entryEnv,Nat.reduceAdd,List.nil_append,List.cons_append,emptyHp]
   repeat' (first|refine gJ ?_|refine go1 ?_|refine uJ (k76 _) ?_|refine uJ (K77 h77 _ _) ?_|refine uJ (K100 h100 _ _) ?_|(refine go2 ?_ ?_<;>intro hh)|fail)
   all_goals (simp only[rV Tryz.func99,Tryz.results99];first|exact J5|refine J6 ?_)
   all_goals simp[isR,frzRes,dX_frz,dFrz]
  ·skip
   refine ClR.walk (c:=_) hc Tryz.func99 rfl (by kernel_rfl) rfl (fun e=>by cases e) ?_
   try simp only[entryEnv,Nat.reduceAdd,List.nil_append,List.cons_append,emptyHp]
   repeat' (first|refine gJ ?_|refine go1 ?_|refine uJ (k76 _) ?_|refine uJ (K77 h77 _ _) ?_|refine uJ (K100 h100 _ _) ?_|(refine go2 ?_ ?_<;>intro hh)|fail)
   all_goals (simp only[rV Tryz.func99,Tryz.results99];first|exact J5|refine J6 ?_)
   all_goals simp[isR,frzRes,dX_frz,dFrz]
theorem C40(cx:CxB c)(cx2:CxP c)(hc:c 40=none)(hc99:c 99=none)(b:Bk)(sa:AV)(hb:bkV (.agg [.int .i64 b.miss,.int .i64 b.ghost,sa])=some b)(hm:MdsV sa b.moulds)(m s seen:Int) :
  ClR (dX c) 40 [.agg [.int .i64 b.miss,.int .i64 b.ghost,sa],.int .i64 m,.int .i64 s,.int .i64 seen] emptyHp (isQ (provV b m s seen)):=by
 unfold provV;have os:=hm.out;have hcs:=hm.cells;have hts:=hm.tup;have h99:=fun hn hm'=>C99 cx hc99 hb rfl m s seen 0 1 2 3 ⟨hn,hm'⟩;obtain⟨m3,hm3⟩:∃m3:Mp Blk,m3=((((Mp.nil.set 0 (.var [.int .i64 b.miss,.int .i64 b.ghost,sa])).set 1 (.var [.int .i64 m])).set 2 (.var [.int .i64 s])).set 3 (.var [.int .i64 seen])):=⟨_,rfl⟩;have h74:=C74 cx.toCxA b sa hb hm 99 [] [.ptr 0 0,.ptr 1 0,.ptr 2 0,.ptr 3 0] (numB b.moulds m&&inB s 1 36&&inB seen 0 255) 4 m3 (fun _=>h99 _ _ (by rw[hm3];(simp only[Heap.get_new,Heap.get_put,hp_get,Mp.get_set,reduceIte];repeat (first|rw[if_pos rfl]|rw[if_neg (by omega)]))) (by rw[hm3];(simp only[Heap.get_new,Heap.get_put,hp_get,Mp.get_set,reduceIte];repeat (first|rw[if_pos rfl]|rw[if_neg (by omega)]))) (by rw[hm3];(simp only[Heap.get_new,Heap.get_put,hp_get,Mp.get_set,reduceIte];repeat (first|rw[if_pos rfl]|rw[if_neg (by omega)]))) (by rw[hm3];(simp only[Heap.get_new,Heap.get_put,hp_get,Mp.get_set,reduceIte];repeat (first|rw[if_pos rfl]|rw[if_neg (by omega)]))))
 unfold ClR at h74;obtain⟨r,hca,hr⟩:=h74;simp only[AV.cells]at hcs;simp only[isTuple]at hts;unfold askR at hr;rw[hm3]at hca;cases hb1:(bookB b&&(numB b.moulds m&&inB s 1 36&&inB seen 0 255))with
 |false=>
  rw[hb1]at hr;simp only[Bool.false_eq_true,if_false]at hr ⊢;obtain⟨⟨zn,zm⟩,rfl,_⟩:=hr;have h2:((2:Int) !=0)=true:=rfl;unfold zeroO at hca;clear hb hm h99;refine ClR.walk (c:=_) hc Tryz.func40 rfl (by kernel_rfl) rfl isQ_fail ?_
  try simp only[entryEnv,Nat.reduceAdd,List.nil_append,List.cons_append,emptyHp]
  repeat' (first|refine goS ?_|refine uJ hca ?_|(refine go2 ?_ ?_<;>intro hh)|fail)
  all_goals (simp only[rV Tryz.func40,Tryz.results40];first|exact J5|refine J6 ?_)
  all_goals exact isQ_ret (frz_t2 (.flat rfl) (.flat rfl))
 | true =>
  rw[hb1]at hr;simp only[if_true]at hr ⊢;cases had:allDays b.moulds with
  |false=>
   rw[had]at hr;simp only[Bool.false_eq_true,if_false]at hr ⊢;obtain⟨⟨zn,zm⟩,rfl,_⟩:=hr;have h2:((7:Int) !=0)=true:=rfl;unfold zeroO at hca;clear hb hm h99;refine ClR.walk (c:=_) hc Tryz.func40 rfl (by kernel_rfl) rfl isQ_fail ?_
   try simp only[entryEnv,Nat.reduceAdd,List.nil_append,List.cons_append,emptyHp]
   repeat' (first|refine goS ?_|refine uJ hca ?_|(refine go2 ?_ ?_<;>intro hh)|fail)
   all_goals (simp only[rV Tryz.func40,Tryz.results40];first|exact J5|refine J6 ?_)
   all_goals exact isQ_ret (frz_t2 (.flat rfl) (.flat rfl))
  | true =>
   rw[had]at hr;simp only[if_true]at hr ⊢;obtain⟨dv,bv,ps,⟨zn,zm⟩,rfl,hS,hx⟩:=hr;simp only[Bool.and_eq_true]at hb1;have hO:OpO b.moulds dv bv ⟨zn,zm⟩:=⟨_,ps,hS⟩;have o1:=hS.bd.blt.out;have o2:=hS.bb.blt.out;have o3:=hS.bd.blt.cells;have o4:=hS.bb.blt.cells;have o5:=hS.bd.blt.tup;have o6:=hS.bb.blt.tup;simp only[AV.cells]at o3 o4;simp only[isTuple]at o5 o6;have h2:((0:Int) !=0)=false:=rfl;have hzn:4 <=zn:=hx.1;have q0:zm.get 0=some (.var [.int .i64 b.miss,.int .i64 b.ghost,sa]):=(hx.2 0 (by show 0<4;decide)).trans (by rw[hm3];exact J10);have q1:zm.get 1=some (.var [.int .i64 m]):=(hx.2 1 (by show 1<4;decide)).trans (by rw[hm3];exact J10);have q2:zm.get 2=some (.var [.int .i64 s]):=(hx.2 2 (by show 2<4;decide)).trans (by rw[hm3];exact J10);have q3:zm.get 3=some (.var [.int .i64 seen]):=(hx.2 3 (by show 3<4;decide)).trans (by rw[hm3];exact J10);obtain⟨hbk,⟨hnb,hst⟩,hse⟩:=hb1;simp only[numB,inB,Bool.and_eq_true,decide_eq_true_eq]at hnb hst hse;obtain⟨w,rfl⟩:∃w:Nat,seen=(w:Int):=⟨seen.toNat,by omega⟩;have hw:w<256:=by omega
   rw[Int.toNat_natCast];obtain⟨d,hd⟩:=get_some (l:=b.moulds) (k:=m.toNat) (by omega);have hme:((m.toNat:Nat):Int)=m:=by omega
   have hmd:mdAt b m=d:=by unfold mdAt;rw[List.getD,hd];rfl
   rw[hmd];have hml:=(List.getElem?_eq_some_iff.1 hd).1;have g:=MdG.of hm hbk hd;have hpt:=mdOk_parts (n:=m.toNat) (by have:=hm.max;omega) (book_ok hbk m.toNat d hml hd);have hm4:=hpt.2.2.2.2.2.1;have hN5:b.moulds.length <=5:=by
    have h1:=hbk;unfold bookB at h1;simp only[Bool.and_eq_true,inB,decide_eq_true_eq]at h1;omega
   obtain⟨es,hsa,hel,hes,hee⟩:=bk_els hb (by intro e;rw[e]at hd;simp at hd);obtain⟨ma,la,hge,v1,v2⟩:=hee m.toNat d hd;have hix:∀H:Heap,indexAddrV Tryz.prog H 22 sa (.int .i64 m)=some (.vptr [.int .i64 d.parent,.int .i64 d.clo,.int .i64 d.chi,ma,la]):=fun H=>by
    rw[hsa,<-hme];have e1:=(slV_is v1).1.cells;exact isSl.idx (es:=es) (.inr rfl) (P:=Tryz.prog) (hp:=H) (t:=22) (k:=m.toNat) Tryz.underlying22 ty_lay76 hge rfl
   have om:=sl_out v1;have ol:=sl_out v2;have lm0:=sl_len v1;have mm:=sl_max v1;obtain⟨m5,hm5⟩:∃m5:Mp Blk,m5=(zm.set zn (.var [.int .i64 0,.int .i64 0,.nilslice,.nilslice,.nilslice,.int .i64 0,.int .i64 0])).set zn (.var [.int .i64 b.miss,.int .i64 b.ghost,sa,dv,bv,.int .i64 m,.int .i64 s]):=⟨_,rfl⟩;have hx5:HExt ⟨zn,zm⟩ ⟨zn+1,m5⟩:=⟨Nat.le_succ _,fun id hid=>by
    have hid':id<zn:=hid;rw[hm5];exact J10⟩
   have k101:=C101 (c:=c) cx2.toCxG b.miss b.ghost sa dv bv o1 b.moulds hm m.toNat d hd g.sp s w hw (zn+1) m5 (hO.keep hx5);rw[hme]at k101;unfold ClR at k101;obtain⟨r,k101,⟨un,um⟩,rfl,hxu⟩:=k101;have hun:zn+1 <=un:=hxu.1;have p12:m5.get zn=some (.var [.int .i64 b.miss,.int .i64 b.ghost,sa,dv,bv,.int .i64 m,.int .i64 s]):=by rw[hm5];exact J10
   have u12:um.get zn=_:=(hxu.2 zn (by simp only;omega)).trans p12;have u0:um.get 0=_:=(hxu.2 0 (by simp only;omega)).trans ((hx5.2 0 (by simp only;omega)).trans q0);have u1:um.get 1=_:=(hxu.2 1 (by simp only;omega)).trans ((hx5.2 1 (by simp only;omega)).trans q1);have u2:um.get 2=_:=(hxu.2 2 (by simp only;omega)).trans ((hx5.2 2 (by simp only;omega)).trans q2);have u3:um.get 3=_:=(hxu.2 3 (by simp only;omega)).trans ((hx5.2 3 (by simp only;omega)).trans q3);have k102:=fun(k:Nat) (x:Mk) (hx:d.marks[k]? =some x) (there:Bool) (hn:Nat) (hm0:Mp Blk) (hO:OpO b.moulds dv bv ⟨hn,hm0⟩) (g1:hm0.get zn=some (.var [.int .i64 b.miss,.int .i64 b.ghost,sa,dv,bv,.int .i64 (m.toNat:Int),.int .i64 s])) (g2:hm0.get 1=some (.var [.int .i64 (m.toNat:Int)])) (g3:hm0.get 2=some (.var [.int .i64 s])) (g4:hm0.get 3=some (.var [.int .i64 (w:Int)])) (hl:zn<hn)=>
    C102 (c:=c) cx2 b.miss b.ghost sa dv bv o1 o2 b.moulds m.toNat hml (by omega) es hsa hel hes d.parent d.clo d.chi ma la hge d.marks d.loans v1 v2 g.sp (by omega) s (by omega) w hw k x hx there hn hm0 hO zn 1 2 3 g1 g2 g3 g4 hl (by omega) (by omega) (by omega)
   rw[hme]at k102;have K102:=J1 k102;have HO:=J1 ((hO.keep hx5).keep hxu);have HV1:=J1 v1;have HM4:=J1 hm4;have HSP:=J1 g.sp;have hws:IntKind.i64.wrap (s+1)=s+1:=wrap_small (by omega) (by omega);have p1:m5.get 1=_:=(hx5.2 1 (by simp only;omega)).trans q1;have p2:m5.get 2=_:=(hx5.2 2 (by simp only;omega)).trans q2;have p3:m5.get 3=_:=(hx5.2 3 (by simp only;omega)).trans q3;have f0:(zn==1)=false:=by rw[beq_eq_false_iff_ne];omega
   have f1:(zn==2)=false:=by rw[beq_eq_false_iff_ne];omega
   have f2:(zn==3)=false:=by rw[beq_eq_false_iff_ne];omega
   have h00:=provP_zero b.miss b.ghost b.moulds m.toNat d.marks s w;have H00:=J1 h00;rw[hm5]at k101 p12 p1 p2 p3;generalize hag:agrN b.miss b.ghost (birthN b.moulds m.toNat) (sureM d.marks s) (canM d.marks s) w=ag at *;clear hb hm h99 hS hO hd hmd hx hbk hnb hst hse hx5 hxu hm5 g hpt hm4 hsa hel hes hee hge v1 v2 k102 hag h00;cases ag with
   |false=>
    simp only[Bool.false_eq_true,if_false];refine ClR.walk (c:=_) hc Tryz.func40 rfl (by kernel_rfl) rfl isQ_fail ?_
    try simp only[entryEnv,Nat.reduceAdd,List.nil_append,List.cons_append,emptyHp]
    repeat' (first|refine goS ?_|refine uJ hca ?_|refine uJ k101 ?_|(refine go2 ?_ ?_<;>intro hh)|fail)
    all_goals (simp only[rV Tryz.func40,Tryz.results40];first|exact J5|refine J6 ?_)
    all_goals exact isQ_ret (frz_t2 (.flat rfl) (.flat rfl))
   | true =>
    simp only[if_true];refine ClR.walk (c:=_) hc Tryz.func40 rfl (by kernel_rfl) rfl isQ_fail ?_
    try simp only[entryEnv,Nat.reduceAdd,List.nil_append,List.cons_append,emptyHp]
    repeat' (first|refine goS ?_|refine uJ hca ?_|refine uJ k101 ?_|(refine go2 ?_ ?_<;>intro hh)|fail)
    refine W.loopV (d.marks.length) [6,13,41,42] [6] (fun k e lm hp=>∃u,e.get 43=some (.int .i64 ↑k)/\e.get 14=some (u)/\BltN un hp u 2 (spanP (provP b.miss b.ghost b.moulds m.toNat d.marks s w k))/\HExt ⟨un,um⟩ hp) ?_ ?_
    ·skip
     refine⟨.nilslice,?_,?_,?_,HExt.refl _⟩
     ·simp[go_sem, *]
     ·simp[go_sem, *]
     ·rw[H00.out];exact BltN.nil
    intro k e lm hp hk0 hce hcl hinv;simp only[keepE,and_true]at hce;obtain⟨c6,c13,c41,c42⟩:=hce;simp only[go_sem, *,Nat.reduceBEq,Nat.reduceEqDiff,reduceIte]at c6 c13 c41 c42;simp only[keepL,and_true]at hcl;have d6:=hcl;clear hcl;simp only[go_sem, *,Nat.reduceBEq,Nat.reduceEqDiff,reduceIte]at d6;obtain⟨u,h43,h14,hB,hX⟩:=hinv;by_cases hlt:k<d.marks.length
    ·have hd0:=dT hlt
     have hv_0:=wrap_succ hlt mm;obtain⟨x,hx⟩:=get_some hlt;have hix2:=fun H=>mks_idx HV1.out hx H;obtain⟨pn,pm⟩:=hp;have w12:pm.get zn=_:=(hX.2 zn (by simp only;omega)).trans u12;have w1:pm.get 1=_:=(hX.2 1 (by simp only;omega)).trans u1;have w2:pm.get 2=_:=(hX.2 2 (by simp only;omega)).trans u2;have w3:pm.get 3=_:=(hX.2 3 (by simp only;omega)).trans u3;have hpn:un <=pn:=hX.1;have k102a:=K102.out k x hx true pn pm (HO.out.keep hX) w12 w1 w2 w3 (by omega);unfold ClR at k102a;obtain⟨r,k102a,⟨an,am⟩,rfl,hxa⟩:=k102a;have hX1:HExt ⟨un,um⟩ ⟨an,am⟩:=hX.trans hxa;have y12:am.get zn=_:=(hX1.2 zn (by simp only;omega)).trans u12;have y1:am.get 1=_:=(hX1.2 1 (by simp only;omega)).trans u1;have y2:am.get 2=_:=(hX1.2 2 (by simp only;omega)).trans u2;have y3:am.get 3=_:=(hX1.2 3 (by simp only;omega)).trans u3;have han:un <=an:=hX1.1;have k102b:=K102.out k x hx false an am (HO.out.keep hX1) y12 y1 y2 y3 (by omega);unfold ClR at k102b;obtain⟨r,k102b,⟨bn,bm⟩,rfl,hxb⟩:=k102b;have hX2:HExt ⟨un,um⟩ ⟨bn,bm⟩:=hX1.trans hxb;have x2:bm.get 2=_:=(hX2.2 2 (by simp only;omega)).trans u2;have hB2:=(hB.keep hxa).keep hxb;have hbo1:=hB2.blt.out;have hll:(spanP (provP b.miss b.ghost b.moulds m.toNat d.marks s w k)).length+1 <=most:=by
      rw[spanP_len,provP_len];have:=HM4.out;unfold most;omega
     have hnx:=provP_next (mi:=b.miss) (gh:=b.ghost) (l:=b.moulds) (m:=m.toNat) (s:=s) (seen:=w) hx;have HNX:=J1 hnx;have HLT0:=J1 hlt;clear hX hx hlt hB hX1 hxa hxb hnx hpn han y12 y1 y3 w12 w1 w3;have hX:=hX2;have hB:=hB2;clear hX2 hB2;generalize withB b.miss b.ghost b.moulds m.toNat d.marks s w k x true=c1 at *;generalize withB b.miss b.ghost b.moulds m.toNat d.marks s w k x false=c2 at *;cases c1<;>cases c2;all_goals
      have hnx:=HNX.out;simp only[Bool.false_eq_true,if_false,if_true]at hnx;have HN2:=J1 hnx;clear hnx
     ·skip
      repeat' (first|(apply WO1.appendN (t:=59) (u:=59) (e:=45) (e':=45) (sz:=2) (tl:=[]) (hb:=hB) (hx:=HExt.pair hX);exact Z1;exact rfl;exact Z2;exact Z2;exact Z2;(focus (exact ty_row59));exact Z1;(focus (intro v hv;simp at hv;subst hv;first|rfl|exact hsc));(focus (simp only[List.length_map,List.length_cons,List.length_nil];exact hll));(focus (simp));(intro v' h' hB' ho' hX';have hcc':=hB'.blt.cells;have htt':=hB'.blt.tup;simp only[AV.cells]at hcc';simp only[isTuple]at htt';simp only[pM,pN]))|refine go1 ?_|refine uJ k102a ?_|refine uJ k102b ?_|(refine go2 ?_ ?_<;>intro hh)|fail)
      all_goals refine contV_mk J9 J7 J8 ?_
      all_goals refine⟨v',?_,?_,?_,hX'⟩
      all_goals first|exact Z2|skip
      ·rw[HN2.out,spanP_app];exact hB'
     ·skip
      repeat' (first|(apply WO1.appendN (t:=59) (u:=59) (e:=45) (e':=45) (sz:=2) (tl:=[]) (hb:=hB) (hx:=HExt.pair hX);exact Z1;exact rfl;exact Z2;exact Z2;exact Z2;(focus (exact ty_row59));exact Z1;(focus (intro v hv;simp at hv;subst hv;first|rfl|exact hsc));(focus (simp only[List.length_map,List.length_cons,List.length_nil];exact hll));(focus (simp));(intro v' h' hB' ho' hX';have hcc':=hB'.blt.cells;have htt':=hB'.blt.tup;simp only[AV.cells]at hcc';simp only[isTuple]at htt';simp only[pM,pN]))|refine go1 ?_|refine uJ k102a ?_|refine uJ k102b ?_|(refine go2 ?_ ?_<;>intro hh)|fail)
      all_goals refine contV_mk J9 J7 J8 ?_
      all_goals refine⟨v',?_,?_,?_,hX'⟩
      all_goals first|exact Z2|skip
      ·rw[HN2.out,spanP_app];exact hB'
     ·skip
      repeat' (first|(apply WO1.appendN (t:=59) (u:=59) (e:=45) (e':=45) (sz:=2) (tl:=[]) (hb:=hB) (hx:=HExt.pair hX);exact Z1;exact rfl;exact Z2;exact Z2;exact Z2;(focus (exact ty_row59));exact Z1;(focus (intro v hv;simp at hv;subst hv;first|rfl|exact hsc));(focus (simp only[List.length_map,List.length_cons,List.length_nil];exact hll));(focus (simp));(intro v' h' hB' ho' hX';have hcc':=hB'.blt.cells;have htt':=hB'.blt.tup;simp only[AV.cells]at hcc';simp only[isTuple]at htt';simp only[pM,pN]))|refine go1 ?_|refine uJ k102a ?_|refine uJ k102b ?_|(refine go2 ?_ ?_<;>intro hh)|fail)
      all_goals refine contV_mk J9 J7 J8 ?_
      all_goals refine⟨v',?_,?_,?_,hX'⟩
      all_goals first|exact Z2|skip
      ·rw[HN2.out,spanP_app];exact hB'
     ·skip
      repeat' (first|(apply WO1.appendN (t:=59) (u:=59) (e:=45) (e':=45) (sz:=2) (tl:=[]) (hb:=hB) (hx:=HExt.pair hX);exact Z1;exact rfl;exact Z2;exact Z2;exact Z2;(focus (exact ty_row59));exact Z1;(focus (intro v hv;simp at hv;subst hv;first|rfl|exact hsc));(focus (simp only[List.length_map,List.length_cons,List.length_nil];exact hll));(focus (simp));(intro v' h' hB' ho' hX';have hcc':=hB'.blt.cells;have htt':=hB'.blt.tup;simp only[AV.cells]at hcc';simp only[isTuple]at htt';simp only[pM,pN]))|refine go1 ?_|refine uJ k102a ?_|refine uJ k102b ?_|(refine go2 ?_ ?_<;>intro hh)|fail)
      all_goals refine contV_mk J9 J7 J8 ?_
      all_goals refine⟨v',?_,?_,?_,hX'⟩
      all_goals first|exact Z2|skip
      ·rw[HN2.out,spanP_app];exact hB'
    ·have hd0:=dF hlt
     obtain rfl:k=d.marks.length:=by omega
     have hbo:=hB.blt.out;have hft:=isQ_ret (frz_t2 (b:=.int .i64 0) (hB.blt.frz spanP_sz spanP_flat) (.flat rfl));have HFT:=J1 hft;clear hX hB hft;repeat' (first|refine goS ?_|(refine go2 ?_ ?_<;>intro hh)|fail)
     all_goals (simp only[rV Tryz.func40,Tryz.results40];first|exact J5|refine J6 ?_)
     exact HFT.out
end
end
section
attribute [local irreducible] roundQ RdR patC memP grownS setP cutF birF agrN agrK betF rightB
open Go.Mo7 (or_lt)
def leafT(mi gh:Int)(A B:Nat)(bl:List Nat)(one two:Nat):Bool:=bl.any fun n=>rightB mi gh A (n ||| one) (n ||| one)&&rightB mi gh B (n ||| two) (n ||| two)
def twS(mi gh:Int)(A B:Nat)(bl:List Nat):List Mk->Nat->Nat->Int->Int->Int->Int->Bool
 | [],one,two,al,ah,cl,ch=>if al>ah\/maxV cl (al+1)>ch then false else leafT mi gh A B bl one two
 |x::ms,one,two,al,ah,cl,ch=>
  twS mi gh A B bl ms (one ||| 2 ^ x.spot.toNat) (two ||| 2 ^ x.spot.toNat) (maxV al x.lo) ah cl ch||
  (twS mi gh A B bl ms one (two ||| 2 ^ x.spot.toNat) al (minV ah (x.hi - 1)) (maxV cl x.lo) ch||
  twS mi gh A B bl ms one two al ah cl (minV ch (x.hi - 1)))
def stepT(mi gh:Int)(A B one two:Nat)(n:Nat)(s:Unit):Unit×Bool:=if (rightB mi gh A (n ||| one) (n ||| one)&&rightB mi gh B (n ||| two) (n ||| two))=true then ((),false)else ((),true)
theorem fold_two(mi gh:Int)(A B one two:Nat):∀(l:List Nat),(foldS (stepT mi gh A B one two) l ()).2=!leafT mi gh A B l one two
 | []=>rfl
 | n :: l => by
  have ih:=fold_two mi gh A B one two l;unfold leafT at *;rw[List.any_cons];by_cases h:(rightB mi gh A (n ||| one) (n ||| one)&&rightB mi gh B (n ||| two) (n ||| two))=true
  ·have e:stepT mi gh A B one two n ()=((),false):=by unfold stepT;rw[if_pos h]
   simp only[foldS,e,h,Bool.false_eq_true,if_false,Bool.true_or,Bool.not_true]
  ·have e:stepT mi gh A B one two n ()=((),true):=by unfold stepT;rw[if_neg h]
   have h2:(rightB mi gh A (n ||| one) (n ||| one)&&rightB mi gh B (n ||| two) (n ||| two))=false:=by simpa using h
   simp only[foldS,e,h2,if_true,Bool.false_or];exact ih
structure EnvT(mi gh:Int)(sa dv:AV)(l:List Md)(m:Nat)(d:Md)(ma la:AV)(A B:Nat)(dayA dayB:Int)(rid pid:Nat)(els:List AV)(im is io ino i1 i2:Nat)(H:Heap):Prop where
 gm:H.get im=some (.var [.int .i64 d.parent,.int .i64 d.clo,.int .i64 d.chi,ma,la])
 gs:H.get is=some (.var [.func (.func 140) [] [.ptr im 0,.ptr is 0,.ptr io 0,.ptr ino 0,.ptr i1 0,.ptr i2 0]])
 go:H.get io=some (.var [.int .i64 mi,.int .i64 gh,sa,dv,.row rid 0 l.length])
 gn:H.get ino=some (.var [.int .i64 (m:Int)])
 g1:H.get i1=some (.var [.int .i64 (A:Int),.int .i64 dayA])
 g2:H.get i2=some (.var [.int .i64 (B:Int),.int .i64 dayB])
 gr:H.get rid=some (.rw 1 els)
 gp:H.get pid=some (.var (patC (birF l m)))
 lt:im<H.next/\is<H.next/\io<H.next/\ino<H.next/\i1<H.next/\i2<H.next/\rid<H.next/\pid<H.next
theorem EnvT.keep{mi gh:Int}{sa dv:AV}{l:List Md}{m:Nat}{d:Md}{ma la:AV}{A B:Nat}{dayA dayB:Int}{rid pid:Nat}{els:List AV}{im is io ino i1 i2:Nat}{H H':Heap}(q:EnvT mi gh sa dv l m d ma la A B dayA dayB rid pid els im is io ino i1 i2 H)(x:HExt H H'):EnvT mi gh sa dv l m d ma la A B dayA dayB rid pid els im is io ino i1 i2 H':=by
 obtain⟨a1,a2,a3,a4,a5,a6,a7,a8⟩:=q.lt;have hx:=x.1;exact⟨(x.2 _ a1).trans q.gm,(x.2 _ a2).trans q.gs,(x.2 _ a3).trans q.go,(x.2 _ a4).trans q.gn,(x.2 _ a5).trans q.g1,(x.2 _ a6).trans q.g2,(x.2 _ a7).trans q.gr,(x.2 _ a8).trans q.gp,by omega⟩
section
variable{c:Itr}
theorem twS_cons{mi gh:Int}{A B:Nat}{bl:List Nat}{x:Mk}{ms:List Mk}{one two:Nat}{al ah cl ch:Int}:twS mi gh A B bl (x::ms) one two al ah cl ch=(twS mi gh A B bl ms (one ||| 2 ^ x.spot.toNat) (two ||| 2 ^ x.spot.toNat) (maxV al x.lo) ah cl ch||(twS mi gh A B bl ms one (two ||| 2 ^ x.spot.toNat) al (minV ah (x.hi - 1)) (maxV cl x.lo) ch||twS mi gh A B bl ms one two al ah cl (minV ch (x.hi - 1)))):=rfl
theorem bd_max{a b:Int}(ha:-10000 <=a/\a <=10000)(hb:-10000 <=b/\b <=10000):-10000 <=maxV a b/\maxV a b <=10000:=by unfold maxV;split<;>omega
theorem bd_min{a b:Int}(ha:-10000 <=a/\a <=10000)(hb:-10000 <=b/\b <=10000):-10000 <=minV a b/\minV a b <=10000:=by unfold minV;split<;>omega
attribute [local irreducible] twS leafT
theorem L140s(hc:c 140=none)(hc0:c 132=none)(mi gh:Int)(sa dv:AV)(l:List Md)(m:Nat)(d:Md)(ma la:AV)(v1:slV mkC ma=some d.marks)(v2:slV lnC la=some d.loans)(A B:Nat)(dayA dayB:Int)(rid pid:Nat)(els:List AV)(im is io ino i1 i2:Nat)
  (x:Mk) (ms:List Mk) (hsp:0 <=x.spot/\x.spot <=7) (hlo:1 <=x.lo/\x.lo <=x.hi/\x.hi <=36) (k:Nat) (hx:d.marks[k]? =some x) (R:Nat->Nat->Int->Int->Int->Int->Bool)
  (ih:∀(one two:Nat) (al ah cl ch:Int) (h:Heap),one<256->two<256->(-10000 <=al/\al <=10000)->(-10000 <=ah/\ah <=10000)->(-10000 <=cl/\cl <=10000)->(-10000 <=ch/\ch <=10000)->EnvT mi gh sa dv l m d ma la A B dayA dayB rid pid els im is io ino i1 i2 h->
   ClR (dX c) 140 [.int .i64 ((k+1:Nat):Int),.int .i64 (one:Int),.int .i64 (two:Int),.agg [.int .i64 al,.int .i64 ah],.agg [.int .i64 cl,.int .i64 ch],.ptr im 0,.ptr is 0,.ptr io 0,.ptr ino 0,.ptr i1 0,.ptr i2 0] h (valR (.bool (R one two al ah cl ch)) h))
  (one two:Nat) (al ah cl ch:Int) (h1:one<256) (h2:two<256) (ba:-10000 <=al/\al <=10000) (bb:-10000 <=ah/\ah <=10000) (bc:-10000 <=cl/\cl <=10000) (bd:-10000 <=ch/\ch <=10000) (hn:Nat) (hm:Mp Blk) (hE:EnvT mi gh sa dv l m d ma la A B dayA dayB rid pid els im is io ino i1 i2 ⟨hn,hm⟩) :
  ClR (dX c) 140 [.int .i64 (k:Int),.int .i64 (one:Int),.int .i64 (two:Int),.agg [.int .i64 al,.int .i64 ah],.agg [.int .i64 cl,.int .i64 ch],.ptr im 0,.ptr is 0,.ptr io 0,.ptr ino 0,.ptr i1 0,.ptr i2 0] ⟨hn,hm⟩
   (valR (.bool (R (one ||| 2 ^ x.spot.toNat) (two ||| 2 ^ x.spot.toNat) (maxV al x.lo) ah cl ch||(R one (two ||| 2 ^ x.spot.toNat) al (minV ah (x.hi - 1)) (maxV cl x.lo) ch||R one two al ah cl (minV ch (x.hi - 1))))) ⟨hn,hm⟩):=by
 have om:=sl_out v1;have ol:=sl_out v2;have lm0:=sl_len v1;have mm:=sl_max v1;have hkl:=(List.getElem?_eq_some_iff.1 hx).1;have hd0:decide ((k:Int)<(d.marks.length:Int))=true:=by simpa using hkl
 have hix:=fun H=>mks_idx v1 hx H;have k132:=fun h=>C132 hc0 x.spot hsp.1 h;rw[bitI_nat hsp.1 (by omega)]at k132;have hpw:=pow_lt hsp.1 hsp.2;have hw1:IntKind.i64.wrap ((k:Int)+1)=((k+1:Nat):Int):=wrap_succ hkl mm;have hw2:IntKind.i64.wrap (x.hi - 1)=x.hi - 1:=wrap_small (by omega) (by omega);have or1:=op_or (a:=one) (b:=2 ^ x.spot.toNat) (by omega) (by omega);have or2:=op_or (a:=two) (b:=2 ^ x.spot.toNat) (by omega) (by omega);have bx:-10000 <=x.lo/\x.lo <=10000:=by omega
 have by_:-10000 <=x.hi - 1/\x.hi - 1 <=10000:=by omega
 obtain⟨m3,hm3⟩:∃m3:Mp Blk,m3=((hm.set hn (.var [.int .i64 (one:Int)])).set (hn+1) (.var [.int .i64 (two:Int)])).set (hn+1+1) (.var [.bool false]):=⟨_,rfl⟩;have hx3:HExt ⟨hn,hm⟩ ⟨hn+1+1+1,m3⟩:=⟨by simp only;omega,fun id hid=>by
  have hid':id<hn:=hid;rw[hm3];exact J10⟩
 have k1:=ih (one ||| 2 ^ x.spot.toNat) (two ||| 2 ^ x.spot.toNat) (maxV al x.lo) ah cl ch ⟨hn+1+1+1,m3⟩ (or_lt h1 hpw) (or_lt h2 hpw) (bd_max ba bx) bb bc bd (hE.keep hx3);unfold ClR at k1;obtain⟨r,k1,⟨un,um⟩,rfl,hxu⟩:=k1;have k2:=ih one (two ||| 2 ^ x.spot.toNat) al (minV ah (x.hi - 1)) (maxV cl x.lo) ch ⟨un,um⟩ h1 (or_lt h2 hpw) ba (bd_min bb by_) (bd_max bc bx) bd ((hE.keep hx3).keep hxu);unfold ClR at k2;obtain⟨r,k2,⟨wn,wm⟩,rfl,hxw⟩:=k2;have k3:=ih one two al ah cl (minV ch (x.hi - 1)) ⟨wn,wm⟩ h1 h2 ba bb bc (bd_min bd by_) (((hE.keep hx3).keep hxu).keep hxw);unfold ClR at k3;obtain⟨r,k3,⟨yn,ym⟩,rfl,hxy⟩:=k3;have g0:=hE;have gu:=(hE.keep hx3).keep hxu;have gw:=gu.keep hxw;have gy:=gw.keep hxy;obtain⟨a1,a2,a3,a4,a5,a6,a7,a8⟩:=g0.lt;have r12u:um.get hn=some (.var [.int .i64 (one:Int)]):=(hxu.2 hn (by simp only;omega)).trans (by rw[hm3];exact J10);have r13u:um.get (hn+1)=some (.var [.int .i64 (two:Int)]):=(hxu.2 (hn+1) (by simp only;omega)).trans (by rw[hm3];exact J10);have r16u:um.get (hn+1+1)=some (.var [.bool false]):=(hxu.2 (hn+1+1) (by simp only;omega)).trans (by rw[hm3];exact J10);have hun:hn+1+1+1 <=un:=hxu.1;have hwn:un <=wn:=hxw.1;have hyn:wn <=yn:=hxy.1;have r12w:wm.get hn=some (.var [.int .i64 (one:Int)]):=(hxw.2 hn (by simp only;omega)).trans r12u;have r13w:wm.get (hn+1)=some (.var [.int .i64 (two:Int)]):=(hxw.2 (hn+1) (by simp only;omega)).trans r13u;have r16w:wm.get (hn+1+1)=some (.var [.bool false]):=(hxw.2 (hn+1+1) (by simp only;omega)).trans r16u;have r16y:ym.get (hn+1+1)=some (.var [.bool false]):=(hxy.2 (hn+1+1) (by simp only;omega)).trans r16w;have gm0:hm.get im=_:=g0.gm;have gs0:hm.get is=_:=g0.gs;have gmu:um.get im=_:=gu.gm;have gsu:um.get is=_:=gu.gs;have gmw:wm.get im=_:=gw.gm;have gsw:wm.get is=_:=gw.gs;have hfu:∀b:Bool,HExt ⟨hn,hm⟩ ⟨un,um.set (hn+1+1) (.var [.bool b])⟩:=fun b=>⟨by simp only;omega,fun id hid=>by
  have hid':id<hn:=hid;rw[hp_get,Mp.get_set,if_neg (by omega)];exact(hxu.2 id (by simp only;omega)).trans (hx3.2 id hid)⟩
 have hfw:∀b:Bool,HExt ⟨hn,hm⟩ ⟨wn,wm.set (hn+1+1) (.var [.bool b])⟩:=fun b=>⟨by simp only;omega,fun id hid=>by
  have hid':id<hn:=hid;rw[hp_get,Mp.get_set,if_neg (by omega)];exact(hxw.2 id (by simp only;omega)).trans ((hxu.2 id (by simp only;omega)).trans (hx3.2 id hid))⟩
 have hfy:∀b:Bool,HExt ⟨hn,hm⟩ ⟨yn,ym.set (hn+1+1) (.var [.bool b])⟩:=fun b=>⟨by simp only;omega,fun id hid=>by
  have hid':id<hn:=hid;rw[hp_get,Mp.get_set,if_neg (by omega)];exact(hxy.2 id (by simp only;omega)).trans ((hxw.2 id (by simp only;omega)).trans ((hxu.2 id (by simp only;omega)).trans (hx3.2 id hid)))⟩
 have HFU:=J1 hfu;have HFW:=J1 hfw;have HFY:=J1 hfy;have e1:(hn==im)=false:=by rw[beq_eq_false_iff_ne];simp only at a1;omega
 have e2:(hn+1==im)=false:=by rw[beq_eq_false_iff_ne];simp only at a1;omega
 have e3:(hn+1+1==im)=false:=by rw[beq_eq_false_iff_ne];simp only at a1;omega
 have e4:(hn==is)=false:=by rw[beq_eq_false_iff_ne];simp only at a2;omega
 have e5:(hn+1==is)=false:=by rw[beq_eq_false_iff_ne];simp only at a2;omega
 have e6:(hn+1+1==is)=false:=by rw[beq_eq_false_iff_ne];simp only at a2;omega
 rw[hm3]at k1;generalize R (one ||| 2 ^ x.spot.toNat) (two ||| 2 ^ x.spot.toNat) (maxV al x.lo) ah cl ch=c1 at *;generalize R one (two ||| 2 ^ x.spot.toNat) al (minV ah (x.hi - 1)) (maxV cl x.lo) ch=c2 at *;generalize R one two al ah cl (minV ch (x.hi - 1))=c3 at *;generalize 2 ^ x.spot.toNat=sp at *;clear ih g0 gu gw gy hE hx3 hxu hxw hxy a1 a2 a3 a4 a5 a6 a7 a8 v1 v2 hx hkl mm hun hwn hyn ba bb bc bd bx by_ hfu hfw hfy hsp hlo hpw h1 h2;cases c1 with
 |true=>
  rw[Bool.true_or];refine ClR.walk (c:=_) hc Tryz.func140 rfl (by kernel_rfl) rfl valR_fail ?_
  try simp only[entryEnv,Nat.reduceAdd,List.nil_append,List.cons_append,emptyHp]
  repeat' (first|refine goS ?_|refine uJ (k132 _) ?_|refine uJ k1 ?_|(refine go2 ?_ ?_<;>intro hh)|fail)
  all_goals (simp only[rV Tryz.func140,Tryz.results140];first|exact J5|refine J6 ?_)
  exact⟨_,rfl,HFU.out true⟩
 | false =>
  rw[Bool.false_or];cases c2 with
  |true=>
   rw[Bool.true_or];refine ClR.walk (c:=_) hc Tryz.func140 rfl (by kernel_rfl) rfl valR_fail ?_
   try simp only[entryEnv,Nat.reduceAdd,List.nil_append,List.cons_append,emptyHp]
   repeat' (first|refine goS ?_|refine uJ (k132 _) ?_|refine uJ k1 ?_|refine uJ k2 ?_|(refine go2 ?_ ?_<;>intro hh)|fail)
   all_goals (simp only[rV Tryz.func140,Tryz.results140];first|exact J5|refine J6 ?_)
   exact⟨_,rfl,HFW.out true⟩
  |false=>
   rw[Bool.false_or];refine ClR.walk (c:=_) hc Tryz.func140 rfl (by kernel_rfl) rfl valR_fail ?_
   try simp only[entryEnv,Nat.reduceAdd,List.nil_append,List.cons_append,emptyHp]
   repeat' (first|refine goS ?_|refine uJ (k132 _) ?_|refine uJ k1 ?_|refine uJ k2 ?_|refine uJ k3 ?_|(refine go2 ?_ ?_<;>intro hh)|fail)
   all_goals (simp only[rV Tryz.func140,Tryz.results140];first|exact J5|refine J6 ?_)
   exact⟨_,rfl,HFY.out _⟩
end
end
end Go.AM
