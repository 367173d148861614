/-
    A part of the proof: contracts of functions.
-/
import Derived.Test.YtgihdicidaipmaaGreatDoorTAO
import Derived.Test.YtgihdicidaipmaaGreatDoorTAK
set_option linter.unusedSectionVars false
set_option linter.unusedVariables false
set_option linter.unusedSimpArgs false
set_option maxRecDepth 100000
set_option maxHeartbeats 16000000
namespace Go.AM
open Go Go.Proofs
variable[Keep]
attribute [local irreducible] W WO WO1 WD WQ WT thenQ blockQ endR isRet retK Cl ClR
section
attribute [local irreducible] roundQ RdR patC memP grownS setP cutF birF agrN agrK betF
theorem MdG.of{b:Bk}{sa:AV}(hm:MdsV sa b.moulds)(hbk:bookB b=true){k:Nat}{d:Md}(hd:b.moulds[k]? =some d):MdG sa b.moulds k d:=by
 have hk:=(List.getElem?_eq_some_iff.1 hd).1;have hpt:=mdOk_parts (n:=k) (by have:=hm.max;omega) (book_ok hbk k d hk hd);exact⟨hm,hd,spots_of (n:=k) (by have:=hm.max;omega) (book_ok hbk k d hk hd),hpt.2.2.2.2.2.2.2.2,hpt.2.2.2.2.2.2.1.1,hpt.2.2.2.2.2.2.1.2⟩
def betW(mi gh:Int)(l:List Md)(m:Nat)(d:Md)(seen:Nat)(day:Int):Nat×Nat:=betF (agrK mi gh l m d seen) (untP d.loans day).toNat
def mdO(b:Bk)(k:Nat):Md:=b.moulds.getD k ⟨0,0,0,[],[]⟩
theorem mdO_is{b:Bk}{k:Nat}{d:Md}(h:b.moulds[k]? =some d):mdO b k=d:=by unfold mdO;rw[List.getD,h];rfl
def couldN(b:Bk)(seen:Nat)(day:Int)(k:Nat):List Nat:=(List.range k).filter fun m=>decide (((betW b.miss b.ghost b.moulds m (mdO b m) seen day).1:Int)>0)
theorem couldN_zero(b:Bk)(seen:Nat)(day:Int):couldN b seen day 0=[]:=rfl
theorem couldN_next{b:Bk}{seen:Nat}{day:Int}{k:Nat}{d:Md}(h:b.moulds[k]? =some d):couldN b seen day (k+1)=if ((betW b.miss b.ghost b.moulds k d seen day).1:Int)>0 then couldN b seen day k++[k]else couldN b seen day k:=by
 unfold couldN;rw[List.range_succ,List.filter_append,<-mdO_is h];by_cases q:((betW b.miss b.ghost b.moulds k (mdO b k) seen day).1:Int)>0
 ·rw[if_pos q,List.filter_cons_of_pos (by simpa using q)]
  rfl
 ·rw[if_neg q,List.filter_cons_of_neg (by simpa using q)]
  simp
theorem couldN_len(b:Bk)(seen:Nat)(day:Int)(k:Nat):(couldN b seen day k).length <=k:=by
 unfold couldN;have:=List.length_filter_le (fun m=>decide (((betW b.miss b.ghost b.moulds m (mdO b m) seen day).1:Int)>0)) (List.range k);simpa using this
def whoN(b:Bk)(seen:Nat)(day:Int):Nat->Nat
 |0=>0
 |k+1=>whoN b seen day k ||| houN b.miss b.ghost b.moulds k (mdO b k) seen day
theorem whoN_zero(b:Bk)(seen:Nat)(day:Int):whoN b seen day 0=0:=rfl
theorem whoN_next{b:Bk}{seen:Nat}{day:Int}{k:Nat}{d:Md}(h:b.moulds[k]? =some d):whoN b seen day (k+1)=whoN b seen day k ||| houN b.miss b.ghost b.moulds k d seen day:=by
 rw[<-mdO_is h];rfl
theorem houN_lt(mi gh:Int)(l:List Md)(m seen:Nat)(day:Int){d:Md}(ok:lnsOk d.loans):houN mi gh l m d seen day<64:=houseF_lt ok _ _
theorem whoN_lt{b:Bk}{sa:AV}(hm:MdsV sa b.moulds)(hbk:bookB b=true)(seen:Nat)(day:Int):∀k,whoN b seen day k<64
 |0=>by unfold whoN;decide
 | k + 1 => by
  have ih:=whoN_lt hm hbk seen day k;unfold whoN;refine Nat.or_lt_two_pow (n:=6) ih ?_;cases hd:b.moulds[k]? with
  |some d=>
   rw[mdO_is hd];exact houN_lt _ _ _ _ _ _ (MdG.of hm hbk hd).ln
  |none=>
   have:mdO b k=⟨0,0,0,[],[]⟩:=by unfold mdO;rw[List.getD,hd];rfl
   rw[this];exact houN_lt _ _ _ _ _ _ (fun x hx=>by cases hx)
def couldV(b:Bk)(seen day:Int):AV:=
 if (bookB b&&findB seen day)=true then
  if allDays b.moulds=true then .tuple [slN (natsE (couldN b seen.toNat day b.moulds.length)),.int .i64 0]
  else .tuple [.nilslice,.int .i64 7]
 else .tuple [.nilslice,.int .i64 2]
def betV(b:Bk)(seen day m:Int):AV:=
 if (bookB b&&(findB seen day&&numB b.moulds m))=true then
  if allDays b.moulds=true then
   if ((betW b.miss b.ghost b.moulds m.toNat (mdAt b m) seen.toNat day).1:Int)>0 then .tuple [.agg [.int .i64 ((betW b.miss b.ghost b.moulds m.toNat (mdAt b m) seen.toNat day).1:Int),.int .i64 ((betW b.miss b.ghost b.moulds m.toNat (mdAt b m) seen.toNat day).2:Int)],.int .i64 0]
   else .tuple [.agg [.int .i64 0,.int .i64 0],.int .i64 5]
  else .tuple [.agg [.int .i64 0,.int .i64 0],.int .i64 7]
 else .tuple [.agg [.int .i64 0,.int .i64 0],.int .i64 2]
def whoV(b:Bk)(seen day:Int):AV:=
 if (bookB b&&findB seen day)=true then
  if allDays b.moulds=true then .tuple [slN (natsE (lisN (whoN b seen.toNat day b.moulds.length) 63)),.int .i64 0]
  else .tuple [.nilslice,.int .i64 7]
 else .tuple [.nilslice,.int .i64 2]
attribute [local irreducible] betW couldN whoN houN lisN natsE
section
variable{c:Itr}
theorem C90b(cx:CxH c)(hc:c 90=none)(mi gh:Int)(sa dv bv:AV)(l:List Md)(m:Nat)(d:Md)(g:MdG sa l m d)(seen:Nat)(hsn:seen<256)(day:Int)(h:Heap)(hO:OpO l dv bv h) :
  ClR (dX c) 90 [.agg [.int .i64 mi,.int .i64 gh,sa,dv,bv],.agg [.int .i64 (seen:Int),.int .i64 day],.int .i64 (m:Int)] h (valR (.tuple [.agg [.int .i64 ((betW mi gh l m d seen day).1:Int),.int .i64 ((betW mi gh l m d seen day).2:Int)],.bool (decide (((betW mi gh l m d seen day).1:Int)>0))]) h):=by
 obtain⟨u,hu,hu2⟩:=untP_nat g.ln g.l3 day;have e:betW mi gh l m d seen day=betF (agrK mi gh l m d seen) u:=by unfold betW;rw[hu,Int.toNat_natCast]
 rw[e];exact C90 cx hc mi gh sa dv bv l m d g seen hsn day u hu hu2 h hO
theorem C88(cx:CxB c)(hc:c 88=none)(seen day:Int)(i:Nat)(h:Heap)(g1:h.get i=some (.var [.int .i64 seen,.int .i64 day])) :
  Cl (dX c) 88 [.ptr i 0] h (.ret (.bool (findB seen day)) h none):=by
 refine ClR.cl ?_;have h89:(dX c).intr 89=some (pureFn sp89):=cx.h89;obtain⟨hn,hm⟩:=h;simp only[hp_get]at g1;refine ClR.walk (c:=_) hc Tryz.func88 rfl (by kernel_rfl) rfl (fun e=>by cases e) ?_
 try simp only[entryEnv,Nat.reduceAdd,List.nil_append,List.cons_append,emptyHp]
 repeat' (first|refine goS ?_|refine uJ (K89 h89 _ _ _) ?_|(refine go2 ?_ ?_<;>intro hh)|fail)
 all_goals (simp only[rV Tryz.func88,Tryz.results88];first|exact J5|refine J6 ?_)
 all_goals rfl
theorem C92(cx:CxB c)(hc:c 92=none)(seen day:Int)(i:Nat)(h:Heap)(g1:h.get i=some (.var [.int .i64 seen,.int .i64 day])) :
  Cl (dX c) 92 [.ptr i 0] h (.ret (.bool (findB seen day)) h none):=by
 refine ClR.cl ?_;have h89:(dX c).intr 89=some (pureFn sp89):=cx.h89;obtain⟨hn,hm⟩:=h;simp only[hp_get]at g1;refine ClR.walk (c:=_) hc Tryz.func92 rfl (by kernel_rfl) rfl (fun e=>by cases e) ?_
 try simp only[entryEnv,Nat.reduceAdd,List.nil_append,List.cons_append,emptyHp]
 repeat' (first|refine goS ?_|refine uJ (K89 h89 _ _ _) ?_|(refine go2 ?_ ?_<;>intro hh)|fail)
 all_goals (simp only[rV Tryz.func92,Tryz.results92];first|exact J5|refine J6 ?_)
 all_goals rfl
theorem C91(cx:CxB c)(hc:c 91=none){a:AV}{cs:List AV}{b:Bk}(hb:bkV a=some b)(ha:a= .agg cs)(seen day m:Int)(i j k:Nat)(h:Heap)(g0:h.get i=some (.var [.int .i64 seen,.int .i64 day]))(g1:h.get j=some (.var cs))(g2:h.get k=some (.var [.int .i64 m])) :
  Cl (dX c) 91 [.ptr i 0,.ptr j 0,.ptr k 0] h (.ret (.bool (findB seen day&&numB b.moulds m)) h none):=by
 refine ClR.cl ?_;have k76:=fun h=>K76 (X:=dX c) cx.h76 hb m h;have k89:=fun h=>K89 (X:=dX c) cx.h89 seen day h;subst ha;obtain⟨hn,hm⟩:=h;obtain⟨sa,hsa,hmd⟩:=bk_is hb;have hsa:=AV.agg.inj hsa;subst hsa;have os:=hmd.out;simp only[hp_get]at g0 g1 g2;clear hb hmd;cases h1:findB seen day
 ·rw[h1]at k89
  refine ClR.walk (c:=_) hc Tryz.func91 rfl (by kernel_rfl) rfl (fun e=>by cases e) ?_
  try simp only[entryEnv,Nat.reduceAdd,List.nil_append,List.cons_append,emptyHp]
  repeat' (first|refine gJ ?_|refine go1 ?_|refine uJ (k76 _) ?_|refine uJ (k89 _) ?_|(refine go2 ?_ ?_<;>intro hh)|fail)
  all_goals (simp only[rV Tryz.func91,Tryz.results91];first|exact J5|refine J6 ?_)
  all_goals simp[isR,frzRes,dX_frz,dFrz]
 ·rw[h1]at k89
  refine ClR.walk (c:=_) hc Tryz.func91 rfl (by kernel_rfl) rfl (fun e=>by cases e) ?_
  try simp only[entryEnv,Nat.reduceAdd,List.nil_append,List.cons_append,emptyHp]
  repeat' (first|refine gJ ?_|refine go1 ?_|refine uJ (k76 _) ?_|refine uJ (k89 _) ?_|(refine go2 ?_ ?_<;>intro hh)|fail)
  all_goals (simp only[rV Tryz.func91,Tryz.results91];first|exact J5|refine J6 ?_)
  all_goals simp[isR,frzRes,dX_frz,dFrz]
theorem C30(cx:CxB c)(cx2:CxH c)(hc:c 30=none)(hc88:c 88=none)(hc90:c 90=none)(b:Bk)(sa:AV)(hb:bkV (.agg [.int .i64 b.miss,.int .i64 b.ghost,sa])=some b)(hm:MdsV sa b.moulds)(seen day:Int) :
  ClR (dX c) 30 [.agg [.int .i64 b.miss,.int .i64 b.ghost,sa],.agg [.int .i64 seen,.int .i64 day]] emptyHp (isQ (couldV b seen day)):=by
 unfold couldV;have os:=hm.out;have hcs:=hm.cells;have hts:=hm.tup;have h88:=fun hn hm'=>C88 cx hc88 seen day 0 ⟨hn,hm'⟩;obtain⟨m3,hm3⟩:∃m3:Mp Blk,m3=(Mp.nil.set 0 (.var [.int .i64 seen,.int .i64 day])):=⟨_,rfl⟩;have h74:=C74 cx.toCxA b sa hb hm 88 [] [.ptr 0 0] (findB seen day) 1 m3 (fun _=>h88 _ _ (by rw[hm3];exact J10));unfold ClR at h74;obtain⟨r,hca,hr⟩:=h74;simp only[AV.cells]at hcs;simp only[isTuple]at hts;unfold askR at hr;rw[hm3]at hca;cases hb1:(bookB b&&(findB seen day))with
 |false=>
  rw[hb1]at hr;simp only[Bool.false_eq_true,if_false]at hr ⊢;obtain⟨⟨zn,zm⟩,rfl,_⟩:=hr;have h2:((2:Int) !=0)=true:=rfl;unfold zeroO at hca;clear hb hm h88;refine ClR.walk (c:=_) hc Tryz.func30 rfl (by kernel_rfl) rfl isQ_fail ?_
  try simp only[entryEnv,Nat.reduceAdd,List.nil_append,List.cons_append,emptyHp]
  repeat' (first|refine goS ?_|refine uJ hca ?_|(refine go2 ?_ ?_<;>intro hh)|fail)
  all_goals (simp only[rV Tryz.func30,Tryz.results30];first|exact J5|refine J6 ?_)
  all_goals exact isQ_ret (frz_t2 (.flat rfl) (.flat rfl))
 | true =>
  rw[hb1]at hr;simp only[if_true]at hr ⊢;cases had:allDays b.moulds with
  |false=>
   rw[had]at hr;simp only[Bool.false_eq_true,if_false]at hr ⊢;obtain⟨⟨zn,zm⟩,rfl,_⟩:=hr;have h2:((7:Int) !=0)=true:=rfl;unfold zeroO at hca;clear hb hm h88;refine ClR.walk (c:=_) hc Tryz.func30 rfl (by kernel_rfl) rfl isQ_fail ?_
   try simp only[entryEnv,Nat.reduceAdd,List.nil_append,List.cons_append,emptyHp]
   repeat' (first|refine goS ?_|refine uJ hca ?_|(refine go2 ?_ ?_<;>intro hh)|fail)
   all_goals (simp only[rV Tryz.func30,Tryz.results30];first|exact J5|refine J6 ?_)
   all_goals exact isQ_ret (frz_t2 (.flat rfl) (.flat rfl))
  | true =>
   rw[had]at hr;simp only[if_true]at hr ⊢;obtain⟨dv,bv,ps,⟨zn,zm⟩,rfl,hS,hx⟩:=hr;simp only[Bool.and_eq_true]at hb1;have hO:OpO b.moulds dv bv ⟨zn,zm⟩:=⟨_,ps,hS⟩;have o1:=hS.bd.blt.out;have o2:=hS.bb.blt.out;have o3:=hS.bd.blt.cells;have o4:=hS.bb.blt.cells;have o5:=hS.bd.blt.tup;have o6:=hS.bb.blt.tup;simp only[AV.cells]at o3 o4;simp only[isTuple]at o5 o6;have h2:((0:Int) !=0)=false:=rfl;have hzn:1 <=zn:=hx.1;have q0:zm.get 0=some (.var [.int .i64 seen,.int .i64 day]):=(hx.2 0 (by show 0<1;decide)).trans (by rw[hm3];exact J10);obtain⟨hbk,hfd⟩:=hb1;simp only[findB,inB,Bool.and_eq_true,decide_eq_true_eq]at hfd;obtain⟨w,rfl⟩:∃w:Nat,seen=(w:Int):=⟨seen.toNat,by omega⟩;have hw:w<256:=by omega
   rw[Int.toNat_natCast];have hG:=fun(k:Nat) (d:Md) (hd:b.moulds[k]? =some d)=>MdG.of hm hbk hd;have HG:=J1 hG;have k90:=fun(k:Nat) (d:Md) (g:MdG sa b.moulds k d) (hp:Heap) (hO:OpO b.moulds dv bv hp)=>C90b (c:=c) cx2 hc90 b.miss b.ghost sa dv bv b.moulds k d g w hw day hp hO;have K90:=J1 k90;have HO:=J1 hO;have hlen:=hm.len;have hix:=fun(k:Nat) (d:Md) (hd:b.moulds[k]? =some d)=>hm.elem k d hd;have HML:=J1 hm.max;have HH:=J1 (couldN_zero b w day);clear hb hm h88 hS hO hG k90 hx hbk hfd hix;refine ClR.walk (c:=_) hc Tryz.func30 rfl (by kernel_rfl) rfl isQ_fail ?_
   try simp only[entryEnv,Nat.reduceAdd,List.nil_append,List.cons_append,emptyHp]
   repeat' (first|refine goS ?_|refine uJ hca ?_|(refine go2 ?_ ?_<;>intro hh)|fail)
   refine W.loopV (b.moulds.length) [3,6,23] [3,6] (fun k e lm hp=>∃u,e.get 24=some (.int .i64 ↑k)/\e.get 8=some (u)/\BltN zn hp u 1 (natsE (couldN b w day k))/\HExt ⟨zn,zm⟩ hp) ?_ ?_
   ·skip
    refine⟨.nilslice,?_,?_,?_,HExt.refl _⟩
    ·simp[go_sem, *]
    ·simp[go_sem, *]
    ·rw[HH.out];unfold natsE;exact BltN.nil
   intro k e lm hp hk0 hce hcl hinv;simp only[keepE,and_true]at hce;obtain⟨c3,c6,c23⟩:=hce;simp only[go_sem, *,Nat.reduceBEq,Nat.reduceEqDiff,reduceIte]at c3 c6 c23;simp only[keepL,and_true]at hcl;obtain⟨d3,d6⟩:=hcl;simp only[go_sem, *,Nat.reduceBEq,Nat.reduceEqDiff,reduceIte]at d3 d6;obtain⟨u,h24,h8,hB,hXX⟩:=hinv;by_cases hlt:k<b.moulds.length
   ·have hd0:=dT hlt
    have hv_0:=wrap_succ hlt HML.out;obtain⟨d,hd⟩:=get_some hlt;have k90:=K90.out k d (HG.out k d hd) hp (HO.out.keep hXX);unfold ClR at k90;obtain⟨r,k90,hz,rfl,hxz⟩:=k90;have y0:=(hXX.2 0 (by show 0<zn;omega)).trans q0;have hB:=hB.keep hxz;have hbo1:=hB.blt.out;have hX:HExt ⟨zn,zm⟩ hz:=hXX.trans hxz;have hll:(natsE (couldN b w day k)).length+1 <=most:=by
     rw[natsE_len];have:=couldN_len b w day k;have:=HML.out;unfold most;unfold maxL at this;omega
    have hcn:=couldN_next (b:=b) (seen:=w) (day:=day) hd;have HLT0:=J1 hlt;have HCN:=J1 hcn;clear hXX hxz hlt hd hcn;generalize betW b.miss b.ghost b.moulds k d w day=B at *;obtain⟨pn,pm⟩:=hp;obtain⟨wn,wm⟩:=hz;simp only[hp_get]at y0;cases hB1:decide ((B.1:Int)>0)with
    |true=>
     have hcn:=HCN.out;rw[if_pos (by simpa using hB1)]at hcn;rw[hB1]at k90;have HCN:=J1 hcn;clear hcn;repeat' (first|(apply WO1.appendN (t:=36) (u:=36) (e:=3) (e':=3) (sz:=1) (tl:=[]) (hb:=hB) (hx:=HExt.pair hX);exact Z1;exact rfl;exact Z2;exact Z2;exact Z2;(focus (exact ty_row36));exact Z1;(focus (intro v hv;simp at hv;subst hv;first|rfl|exact hsc));(focus (simp only[List.length_map,List.length_cons,List.length_nil];exact hll));(focus (simp));(intro v' h' hB' ho' hX';have hcc':=hB'.blt.cells;have htt':=hB'.blt.tup;simp only[AV.cells]at hcc';simp only[isTuple]at htt';simp only[pM,pN]))|refine go1 ?_|refine uJ k90 ?_|(refine go2 ?_ ?_<;>intro hh)|fail)
     all_goals refine contV_mk J9 J7 J8 ?_
     all_goals refine⟨v',?_,?_,?_,hX'⟩
     all_goals first|exact Z2|skip
     ·rw[HCN.out,natsE_app];exact hB'
    |false=>
     have hcn:=HCN.out;rw[if_neg (by simpa using hB1)]at hcn;rw[hB1]at k90;have HCN:=J1 hcn;have HB:=J1 hB;have HX:=J1 hX;clear hcn hB hX;repeat' (first|refine goS ?_|refine uJ k90 ?_|(refine go2 ?_ ?_<;>intro hh)|fail)
     all_goals refine contV_mk J9 J7 J8 ?_
     all_goals refine⟨u,?_,?_,?_,HX.out⟩
     all_goals first|exact Z2|skip
     ·rw[HCN.out];exact HB.out
   ·have hd0:=dF hlt
    obtain rfl:k=b.moulds.length:=by omega
    have hbo:=hB.blt.out;have hft:=isQ_ret (frz_t2 (b:=.int .i64 0) (hB.blt.frz natsE_sz natsE_flat) (.flat rfl));have HFT:=J1 hft;clear hXX hB hft;repeat' (first|refine goS ?_|(refine go2 ?_ ?_<;>intro hh)|fail)
    all_goals (simp only[rV Tryz.func30,Tryz.results30];first|exact J5|refine J6 ?_)
    exact HFT.out
theorem C31(cx:CxB c)(cx2:CxH c)(hc:c 31=none)(hc91:c 91=none)(hc90:c 90=none)(b:Bk)(sa:AV)(hb:bkV (.agg [.int .i64 b.miss,.int .i64 b.ghost,sa])=some b)(hm:MdsV sa b.moulds)(seen day m:Int) :
  ClR (dX c) 31 [.agg [.int .i64 b.miss,.int .i64 b.ghost,sa],.agg [.int .i64 seen,.int .i64 day],.int .i64 m] emptyHp (isRet (betV b seen day m)):=by
 unfold betV;have os:=hm.out;have hcs:=hm.cells;have hts:=hm.tup;have h91:=fun hn hm'=>C91 cx hc91 hb rfl seen day m 1 0 2 ⟨hn,hm'⟩;obtain⟨m3,hm3⟩:∃m3:Mp Blk,m3=(((Mp.nil.set 0 (.var [.int .i64 b.miss,.int .i64 b.ghost,sa])).set 1 (.var [.int .i64 seen,.int .i64 day])).set 2 (.var [.int .i64 m])):=⟨_,rfl⟩;have h74:=C74 cx.toCxA b sa hb hm 91 [] [.ptr 1 0,.ptr 0 0,.ptr 2 0] (findB seen day&&numB b.moulds m) 3 m3 (fun _=>h91 _ _ (by rw[hm3];(simp only[Heap.get_new,Heap.get_put,hp_get,Mp.get_set,reduceIte];repeat (first|rw[if_pos rfl]|rw[if_neg (by omega)]))) (by rw[hm3];(simp only[Heap.get_new,Heap.get_put,hp_get,Mp.get_set,reduceIte];repeat (first|rw[if_pos rfl]|rw[if_neg (by omega)]))) (by rw[hm3];(simp only[Heap.get_new,Heap.get_put,hp_get,Mp.get_set,reduceIte];repeat (first|rw[if_pos rfl]|rw[if_neg (by omega)]))))
 unfold ClR at h74;obtain⟨r,hca,hr⟩:=h74;simp only[AV.cells]at hcs;simp only[isTuple]at hts;unfold askR at hr;rw[hm3]at hca;cases hb1:(bookB b&&(findB seen day&&numB b.moulds m))with
 |false=>
  rw[hb1]at hr;simp only[Bool.false_eq_true,if_false]at hr ⊢;obtain⟨⟨zn,zm⟩,rfl,_⟩:=hr;have h2:((2:Int) !=0)=true:=rfl;unfold zeroO at hca;clear hb hm h91;refine ClR.walk (c:=_) hc Tryz.func31 rfl (by kernel_rfl) rfl isRet_fail ?_
  try simp only[entryEnv,Nat.reduceAdd,List.nil_append,List.cons_append,emptyHp]
  repeat' (first|refine goS ?_|refine uJ hca ?_|(refine go2 ?_ ?_<;>intro hh)|fail)
  all_goals (simp only[rV Tryz.func31,Tryz.results31];first|exact J5|refine J6 ?_)
 | true =>
  rw[hb1]at hr;simp only[if_true]at hr ⊢;cases had:allDays b.moulds with
  |false=>
   rw[had]at hr;simp only[Bool.false_eq_true,if_false]at hr ⊢;obtain⟨⟨zn,zm⟩,rfl,_⟩:=hr;have h2:((7:Int) !=0)=true:=rfl;unfold zeroO at hca;clear hb hm h91;refine ClR.walk (c:=_) hc Tryz.func31 rfl (by kernel_rfl) rfl isRet_fail ?_
   try simp only[entryEnv,Nat.reduceAdd,List.nil_append,List.cons_append,emptyHp]
   repeat' (first|refine goS ?_|refine uJ hca ?_|(refine go2 ?_ ?_<;>intro hh)|fail)
   all_goals (simp only[rV Tryz.func31,Tryz.results31];first|exact J5|refine J6 ?_)
  | true =>
   rw[had]at hr;simp only[if_true]at hr ⊢;obtain⟨dv,bv,ps,⟨zn,zm⟩,rfl,hS,hx⟩:=hr;simp only[Bool.and_eq_true]at hb1;have hO:OpO b.moulds dv bv ⟨zn,zm⟩:=⟨_,ps,hS⟩;have o1:=hS.bd.blt.out;have o2:=hS.bb.blt.out;have o3:=hS.bd.blt.cells;have o4:=hS.bb.blt.cells;have o5:=hS.bd.blt.tup;have o6:=hS.bb.blt.tup;simp only[AV.cells]at o3 o4;simp only[isTuple]at o5 o6;have h2:((0:Int) !=0)=false:=rfl;have hzn:3 <=zn:=hx.1;have q0:zm.get 0=some (.var [.int .i64 b.miss,.int .i64 b.ghost,sa]):=(hx.2 0 (by show 0<3;decide)).trans (by rw[hm3];exact J10);have q1:zm.get 1=some (.var [.int .i64 seen,.int .i64 day]):=(hx.2 1 (by show 1<3;decide)).trans (by rw[hm3];exact J10);have q2:zm.get 2=some (.var [.int .i64 m]):=(hx.2 2 (by show 2<3;decide)).trans (by rw[hm3];exact J10);obtain⟨hbk,hfd,hnb⟩:=hb1;simp only[findB,inB,Bool.and_eq_true,decide_eq_true_eq]at hfd;simp only[numB,inB,Bool.and_eq_true,decide_eq_true_eq]at hnb;obtain⟨w,rfl⟩:∃w:Nat,seen=(w:Int):=⟨seen.toNat,by omega⟩;have hw:w<256:=by omega
   rw[Int.toNat_natCast];obtain⟨d,hd⟩:=get_some (l:=b.moulds) (k:=m.toNat) (by omega);have hme:((m.toNat:Nat):Int)=m:=by omega
   have hmd:mdAt b m=d:=by unfold mdAt;rw[List.getD,hd];rfl
   rw[hmd];have k90:=C90b (c:=c) cx2 hc90 b.miss b.ghost sa dv bv b.moulds m.toNat d (MdG.of hm hbk hd) w hw day ⟨zn,zm⟩ hO;rw[hme]at k90;generalize betW b.miss b.ghost b.moulds m.toNat d w day=B at *;unfold ClR at k90;obtain⟨r,k90,hz,rfl,hxz⟩:=k90;clear hb hm h91 hS hO hd hmd hx hbk hfd hnb hxz;cases hB1:decide ((B.1:Int)>0)with
   |true=>
    rw[hB1]at k90;rw[if_pos (by simpa using hB1)];refine ClR.walk (c:=_) hc Tryz.func31 rfl (by kernel_rfl) rfl isRet_fail ?_
    try simp only[entryEnv,Nat.reduceAdd,List.nil_append,List.cons_append,emptyHp]
    repeat' (first|refine goS ?_|refine uJ hca ?_|refine uJ k90 ?_|(refine go2 ?_ ?_<;>intro hh)|fail)
    all_goals (simp only[rV Tryz.func31,Tryz.results31];first|exact J5|refine J6 ?_)
   |false=>
    rw[hB1]at k90;rw[if_neg (by simpa using hB1)];refine ClR.walk (c:=_) hc Tryz.func31 rfl (by kernel_rfl) rfl isRet_fail ?_
    try simp only[entryEnv,Nat.reduceAdd,List.nil_append,List.cons_append,emptyHp]
    repeat' (first|refine goS ?_|refine uJ hca ?_|refine uJ k90 ?_|(refine go2 ?_ ?_<;>intro hh)|fail)
    all_goals (simp only[rV Tryz.func31,Tryz.results31];first|exact J5|refine J6 ?_)
theorem C32(cx:CxB c)(cx2:CxH c)(hc:c 32=none)(hc92:c 92=none)(hc93:c 93=none)(hc84:c 84=none)(b:Bk)(sa:AV)(hb:bkV (.agg [.int .i64 b.miss,.int .i64 b.ghost,sa])=some b)(hm:MdsV sa b.moulds)(seen day:Int) :
  ClR (dX c) 32 [.agg [.int .i64 b.miss,.int .i64 b.ghost,sa],.agg [.int .i64 seen,.int .i64 day]] emptyHp (isQ (whoV b seen day)):=by
 unfold whoV;have os:=hm.out;have hcs:=hm.cells;have hts:=hm.tup;have h92:=fun hn hm'=>C92 cx hc92 seen day 0 ⟨hn,hm'⟩;obtain⟨m3,hm3⟩:∃m3:Mp Blk,m3=(Mp.nil.set 0 (.var [.int .i64 seen,.int .i64 day])):=⟨_,rfl⟩;have h74:=C74 cx.toCxA b sa hb hm 92 [] [.ptr 0 0] (findB seen day) 1 m3 (fun _=>h92 _ _ (by rw[hm3];exact J10));unfold ClR at h74;obtain⟨r,hca,hr⟩:=h74;simp only[AV.cells]at hcs;simp only[isTuple]at hts;unfold askR at hr;rw[hm3]at hca;cases hb1:(bookB b&&(findB seen day))with
 |false=>
  rw[hb1]at hr;simp only[Bool.false_eq_true,if_false]at hr ⊢;obtain⟨⟨zn,zm⟩,rfl,_⟩:=hr;have h2:((2:Int) !=0)=true:=rfl;unfold zeroO at hca;clear hb hm h92;refine ClR.walk (c:=_) hc Tryz.func32 rfl (by kernel_rfl) rfl isQ_fail ?_
  try simp only[entryEnv,Nat.reduceAdd,List.nil_append,List.cons_append,emptyHp]
  repeat' (first|refine goS ?_|refine uJ hca ?_|(refine go2 ?_ ?_<;>intro hh)|fail)
  all_goals (simp only[rV Tryz.func32,Tryz.results32];first|exact J5|refine J6 ?_)
  all_goals exact isQ_ret (frz_t2 (.flat rfl) (.flat rfl))
 | true =>
  rw[hb1]at hr;simp only[if_true]at hr ⊢;cases had:allDays b.moulds with
  |false=>
   rw[had]at hr;simp only[Bool.false_eq_true,if_false]at hr ⊢;obtain⟨⟨zn,zm⟩,rfl,_⟩:=hr;have h2:((7:Int) !=0)=true:=rfl;unfold zeroO at hca;clear hb hm h92;refine ClR.walk (c:=_) hc Tryz.func32 rfl (by kernel_rfl) rfl isQ_fail ?_
   try simp only[entryEnv,Nat.reduceAdd,List.nil_append,List.cons_append,emptyHp]
   repeat' (first|refine goS ?_|refine uJ hca ?_|(refine go2 ?_ ?_<;>intro hh)|fail)
   all_goals (simp only[rV Tryz.func32,Tryz.results32];first|exact J5|refine J6 ?_)
   all_goals exact isQ_ret (frz_t2 (.flat rfl) (.flat rfl))
  | true =>
   rw[had]at hr;simp only[if_true]at hr ⊢;obtain⟨dv,bv,ps,⟨zn,zm⟩,rfl,hS,hx⟩:=hr;simp only[Bool.and_eq_true]at hb1;have hO:OpO b.moulds dv bv ⟨zn,zm⟩:=⟨_,ps,hS⟩;have o1:=hS.bd.blt.out;have o2:=hS.bb.blt.out;have o3:=hS.bd.blt.cells;have o4:=hS.bb.blt.cells;have o5:=hS.bd.blt.tup;have o6:=hS.bb.blt.tup;simp only[AV.cells]at o3 o4;simp only[isTuple]at o5 o6;have h2:((0:Int) !=0)=false:=rfl;have hzn:1 <=zn:=hx.1;have q0:zm.get 0=some (.var [.int .i64 seen,.int .i64 day]):=(hx.2 0 (by show 0<1;decide)).trans (by rw[hm3];exact J10);obtain⟨hbk,hfd⟩:=hb1;simp only[findB,inB,Bool.and_eq_true,decide_eq_true_eq]at hfd;obtain⟨w,rfl⟩:∃w:Nat,seen=(w:Int):=⟨seen.toNat,by omega⟩;have hw:w<256:=by omega
   rw[Int.toNat_natCast];have hG:=fun(k:Nat) (d:Md) (hd:b.moulds[k]? =some d)=>MdG.of hm hbk hd;have HG:=J1 hG;have k93:=fun(k:Nat) (d:Md) (g:MdG sa b.moulds k d) (hp:Heap) (hO:OpO b.moulds dv bv hp)=>C93 (c:=c) cx2 hc93 b.miss b.ghost sa dv bv b.moulds k d g w hw day hp hO;have K93:=J1 k93;have HO:=J1 hO;have hlen:=hm.len;have HML:=J1 hm.max;have HH:=J1 (whoN_zero b w day);have HBK:=J1 hbk;have HHM:=J1 hm;clear hb hm h92 hS hO hG k93 hx hbk hfd;refine ClR.walk (c:=_) hc Tryz.func32 rfl (by kernel_rfl) rfl isQ_fail ?_
   try simp only[entryEnv,Nat.reduceAdd,List.nil_append,List.cons_append,emptyHp]
   repeat' (first|refine goS ?_|refine uJ hca ?_|(refine go2 ?_ ?_<;>intro hh)|fail)
   refine W.loopV (b.moulds.length) [3,6,21] [3,6] (fun k e lm hp=>e.get 22=some (.int .i64 ↑k)/\e.get 8=some (.int .i64 (whoN b w day k:Int))/\HExt ⟨zn,zm⟩ hp) ?_ ?_
   ·skip
    refine⟨?_,?_,HExt.refl _⟩
    ·simp[go_sem, *]
    ·rw[HH.out];simp[go_sem, *]
   intro k e lm hp hk0 hce hcl hinv;simp only[keepE,and_true]at hce;obtain⟨c3,c6,c21⟩:=hce;simp only[go_sem, *,Nat.reduceBEq,Nat.reduceEqDiff,reduceIte]at c3 c6 c21;simp only[keepL,and_true]at hcl;obtain⟨d3,d6⟩:=hcl;simp only[go_sem, *,Nat.reduceBEq,Nat.reduceEqDiff,reduceIte]at d3 d6;obtain⟨h22,h8,hXX⟩:=hinv;by_cases hlt:k<b.moulds.length
   ·have hd0:=dT hlt
    have hv_0:=wrap_succ hlt HML.out;obtain⟨d,hd⟩:=get_some hlt;have hg:=HG.out k d hd;have k93:=K93.out k d hg hp (HO.out.keep hXX);unfold ClR at k93;obtain⟨r,k93,hz,rfl,hxz⟩:=k93;have y0:=(hXX.2 0 (by show 0<zn;omega)).trans q0;have hcn:=whoN_next (b:=b) (seen:=w) (day:=day) hd;have hwl:=whoN_lt HHM.out HBK.out w day k;have hhl:=houN_lt b.miss b.ghost b.moulds k w day hg.ln;have hor:=op_or (a:=whoN b w day k) (b:=houN b.miss b.ghost b.moulds k d w day) (by omega) (by omega);have HXX:=J1 (hXX.trans hxz);have HLT0:=J1 hlt;have HCN:=J1 hcn;clear hXX hxz hlt hd hcn hg hwl hhl;generalize houN b.miss b.ghost b.moulds k d w day=B at *;obtain⟨pn,pm⟩:=hp;obtain⟨wn,wm⟩:=hz;simp only[hp_get]at y0;repeat' (first|refine goS ?_|refine uJ k93 ?_|(refine go2 ?_ ?_<;>intro hh)|fail)
    all_goals refine contV_mk J9 J7 J8 ?_
    all_goals refine⟨?_,?_,HXX.out⟩
    all_goals first|exact Z2|skip
    all_goals (rw[HCN.out];simp only[go_sem, *,Nat.reduceLT,Int.reduceEq,Int.reduceBEq,Int.reduceLE,Int.reduceLT,Nat.reduceAdd,Nat.reduceBEq,Nat.reduceEqDiff,reduceIte,Nat.reduceLeDiff,Nat.reduceMul,Nat.reduceSub,reduceCtorEq])
   ·have hd0:=dF hlt
    obtain rfl:k=b.moulds.length:=by omega
    have hwl:=whoN_lt HHM.out HBK.out w day b.moulds.length;generalize whoN b w day b.moulds.length=set at *;have k84:=C84 (c:=c) hc84 set (by omega) hp;unfold ClR at k84;obtain⟨r,k84,hz,v,hxz,rfl,hB⟩:=k84;have hbo:=hB.blt.out;have hft:=isQ_ret (frz_t2 (b:=.int .i64 0) (hB.blt.frz natsE_sz natsE_flat) (.flat rfl));have HFT:=J1 hft;clear hXX hxz hB hft hwl;repeat' (first|refine goS ?_|refine uJ k84 ?_|(refine go2 ?_ ?_<;>intro hh)|fail)
    all_goals (simp only[rV Tryz.func32,Tryz.results32];first|exact J5|refine J6 ?_)
    exact HFT.out
end
end
section
theorem ints_idx{a:AV}{l:List Int}(h:slV intC a=some l){k:Nat}{p:Int}(hp:l[k]? =some p)(H:Heap):indexAddrV Tryz.prog H 36 a (.int .i64 ↑k)=some (.vptr [.int .i64 p]):=
 (slV_is h).1.idx (x:=intC.enc p) Tryz.underlying36 ty_lay3 (by simp[hp]) rfl
theorem view_pur{h:Heap}{a:AV}(hp:a.pur=true):viewV h a=some a:=by
 unfold viewV;split
 ·simp[AV.pur]at hp
 ·simp[hp]
theorem purL_all:∀{l:List AV},(∀a∈l,a.pur=true)->AV.purL l=true:=by
 intro l;induction l with
 |nil=>intro _;rfl
 |cons a l ih=>
  intro h;simp only[AV.purL,Bool.and_eq_true];exact⟨h a (by simp),ih (fun b hb=>h b (by simp[hb]))⟩
theorem Blt.seen{h:Heap}{v:AV}{sz:Nat}{l:List AV}(b:Blt h v sz l)(hp:∀a∈l,a.pur=true):viewV h v=some (slN l):=by
 rcases b with⟨rfl,rfl⟩|⟨id,rfl,hg,h3,hne⟩
 ·rfl
 ·have h1:AV.purL l=true:=purL_all hp
  cases l with
  |nil=>exact absurd rfl hne
  |cons x l=>simp[viewV,hg,h1,slN]
def SeeV{α:Type}(h:Heap)(c:Cd α)(a:AV)(l:List α):Prop:=∃a',viewV h a=some a'/\slV c a'=some l
theorem SeeV.of{α:Type}{c:Cd α}{a:AV}{l:List α}(hl:slV c a=some l)(h:Heap):SeeV h c a l:=by
 have hp:=sl_pur hl;rcases(slV_is hl).1 with⟨rfl|rfl,_⟩|rfl
 ·exact⟨_,rfl,hl⟩
 ·exact⟨_,rfl,hl⟩
 ·exact⟨_,by simp only[viewV,hp,if_true],hl⟩
theorem SeeV.blt{α:Type}{c:Cd α}{a:AV}{sz:Nat}{l:List α}{h:Heap}(b:Blt h a sz (l.map c.enc))(hl:l.length <=maxL):SeeV h c a l:=
 ⟨_,b.seen (enc_pur c l),slV_slN hl⟩
def sp169:List AV->Option AV
 | [a,.int .i64 v]=>(slV intC a).map fun l=>.int .i64 (idxOf (fun x=>decide (v=x)) l)
 |_=>none
theorem p169:∀args v,sp169 args=some v->v.flat=true:=by
 intro args v h;unfold sp169 at h;split at h
 ·simp only[Option.map_eq_some_iff]at h;obtain⟨l,_,rfl⟩:=h;rfl
 ·cases h
theorem C169(c:Itr)(hc:c 169=none)(a:AV)(l:List Int)(ha:slV intC a=some l)(v:Int)(h:Heap):ClR (dX c) 169 [a,.int .i64 v] h (isRet (.int .i64 (idxOf (fun x=>decide (v=x)) l))):=by
 have hlen:=sl_len ha;have hout:=sl_out ha;have hmax:=sl_max ha;refine ClR.walk (c:=_) hc Tryz.func169 rfl (by kernel_rfl) rfl isRet_fail ?_;simp only[entryEnv,Nat.reduceAdd];repeat' (first|refine goS ?_|(refine go2 ?_ ?_<;>intro hh)|fail)
 refine W.loopN l.length (fun k F=>∃e,F=Fr.mk 169 false e .nil h [] none/\(l.take k).all (fun x=>!decide (v=x))=true/\e.get 0=some a/\e.get 1=some (.int .i64 v)/\e.get 7=some (.int .i64 ↑l.length)/\e.get 8=some (.int .i64 ↑k)/\k <=l.length) ?_ ?_
 ·refine⟨_,rfl,?_,?_,?_,?_,?_,?_⟩<;>simp[go_sem, *]
 rintro k F ⟨e,rfl,hall,h0,h1,h7,h8,hk⟩;have HA:=J1 hall;clear hall;by_cases hlt:k<l.length
 ·obtain⟨p,hp⟩:=get_some hlt
  have hix:=ints_idx ha hp;have hd:decide ((k:Int)<(l.length:Int))=true:=by simpa using hlt
  have hw:=wrap_succ hlt hmax;have hnx:=take_next hp;by_cases hvp:v=p
  ·have HI:=J1 (idxOf_at (p:=fun x=>decide (v=x)) HA.out hp (by simpa using hvp))
   have hb:decide (v=p)=true:=by simpa using hvp
   have hb2:(v==p)=true:=by simpa using hvp
   clear ha hp hnx hvp;repeat' (first|refine goS ?_|(refine go2 ?_ ?_<;>intro hh)|fail)
   all_goals (simp only[rV Tryz.func169,Tryz.results169];first|exact J5|refine J6 ?_)
   rw[HI.out]
  ·have hb:decide (v=p)=false:=by simpa using hvp
   have hb2:(v==p)=false:=by simpa using hvp
   have HN:=J1 hnx;clear ha hp hnx hvp;repeat' (first|refine goS ?_|(refine go2 ?_ ?_<;>intro hh)|fail)
   refine⟨hlt,_,rfl,?_,?_,?_,?_,?_,by omega⟩
   ·have:=HA.out
    rw[HN.out];simp_all
   all_goals exact Z2
 ·have hd:decide ((k:Int)<(l.length:Int))=false:=by simpa using hlt
  have hkl:k=l.length:=by omega
  have h2:=HA.out;rw[hkl,List.take_length]at h2;have HI:=J1 (idxOf_none h2);clear ha h2 hkl;repeat' (first|refine goS ?_|(refine go2 ?_ ?_<;>intro hh)|fail)
  all_goals (simp only[rV Tryz.func169,Tryz.results169];first|exact J5|refine J6 ?_)
  rw[HI.out]
noncomputable def cQO:Itr:=fun _=>none
theorem cQO_sound:Sound (dX cQO):=dX_sound (fun f g h=>by cases h)
theorem F169:IntrFn Tryz.prog 169 (flatFn sp169):=by
 refine flat_fn (X:=dX cQO) cQO_sound p169 ?_;intro args v h;unfold sp169 at h;split at h
 ·simp only[Option.map_eq_some_iff]at h
  obtain⟨l,hl,rfl⟩:=h;exact C169 cQO rfl _ l hl _ _
 ·cases h
theorem K169{X:Ctx}(hX:X.intr 169=some (flatFn sp169))(a:AV)(l:List Int)(v:Int)(ha:slV intC a=some l)(h:Heap):Cl X 169 [a,.int .i64 v] h (.ret (.int .i64 (idxOf (fun x=>decide (v=x)) l)) h none):=
 Cl.intr hX (by simp[flatFn,viewVs,view_pur (sl_pur ha),view_pur (a:=.int .i64 v) rfl,sp169,ha])
def sp145:List AV->Option AV
 | [a,.int .i64 v]=>(slV intC a).map fun l=>.bool (l.any fun x=>decide (v=x))
 |_=>none
theorem p145:∀args v,sp145 args=some v->v.flat=true:=by
 intro args v h;unfold sp145 at h;split at h
 ·simp only[Option.map_eq_some_iff]at h;obtain⟨l,_,rfl⟩:=h;rfl
 ·cases h
noncomputable def cQZ:Itr
 |169=>some (flatFn sp169)
 |_=>none
theorem cQZ_sound:Sound (dX cQZ):=dX_sound (fun f g h=>by
 unfold cQZ at h;split at h
 ·cases h;exact F169
 ·cases h)
theorem F145:IntrFn Tryz.prog 145 (flatFn sp145):=by
 refine flat_fn (X:=dX cQZ) cQZ_sound p145 ?_;intro args v h;unfold sp145 at h;split at h
 ·rename_i a v
  simp only[Option.map_eq_some_iff]at h;obtain⟨l,hl,rfl⟩:=h;have hout:=sl_out hl;have hb:=idxOf_any (fun x=>decide (v=x)) l;rw[<-hb];have k169:∀h,Cl (dX cQZ) 169 [a,.int .i64 v] h (.ret (.int .i64 (idxOf (fun x=>decide (v=x)) l)) h none):=fun h=>K169 rfl a l v hl h;generalize idxOf (fun x=>decide (v=x)) l=n at *;clear hl hb;refine ClR.walk (c:=_) rfl Tryz.func145 rfl (by kernel_rfl) rfl isRet_fail ?_;simp only[entryEnv,Nat.reduceAdd];repeat' (first|refine goS ?_|refine uJ (k169 _) ?_|(refine go2 ?_ ?_<;>intro hh)|fail)
  all_goals (simp only[rV Tryz.func145,Tryz.results145];first|exact J5|refine J6 ?_)
 ·cases h
theorem K145{X:Ctx}(hX:X.intr 145=some (flatFn sp145)){a:AV}{l:List Int}(v:Int){h:Heap}(hl:SeeV h intC a l):Cl X 145 [a,.int .i64 v] h (.ret (.bool (l.any fun x=>decide (v=x))) h none):=by
 obtain⟨a',v1,s1⟩:=hl;have e:viewV h (.int .i64 v)=some (.int .i64 v):=rfl;exact Cl.intr hX (by simp[flatFn,viewVs,v1,e,sp145,s1])
end
end Go.AM
