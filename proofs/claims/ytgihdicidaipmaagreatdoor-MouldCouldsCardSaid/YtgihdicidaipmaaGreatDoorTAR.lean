/-
    A part of the proof: contracts of functions.
-/
import Derived.Test.YtgihdicidaipmaaGreatDoorTAQ
set_option linter.unusedSectionVars false
set_option linter.unusedVariables false
set_option linter.unusedSimpArgs false
set_option maxRecDepth 100000
set_option maxHeartbeats 16000000
namespace Go.AM
open Go Go.Proofs
variable[Keep]
attribute [local irreducible] W WO WO1 WD WQ WT thenQ blockQ endR isRet retK Cl ClR
section
attribute [local irreducible] roundQ RdR patC memP grownS setP cutF birF houN entE allK rowK clearB
theorem leadF_lt{b:Bk}{sa:AV}(hm:MdsV sa b.moulds)(hbk:bookB b=true)(m w:Nat):leadF b m w<64:=by
 unfold leadF;cases hd:b.moulds[m]? with
 |some d=>
  rw[mdO_is hd];exact houN_lt _ _ _ _ _ _ (MdG.of hm hbk hd).ln
 |none=>
  have:mdO b m=⟨0,0,0,[],[]⟩:=by unfold mdO;rw[List.getD,hd];rfl
  rw[this];exact houN_lt _ _ _ _ _ _ (fun x hx=>by cases hx)
def goneF(n:Nat):List Int->Int->Bool
 | [],_=>true
 |x::r,last=>inB x (last+1) ((n:Int) - 1)&&goneF n r x
def goneB(n:Nat)(l:List Int):Bool:=goneF n l (-1)
def clearV(b:Bk)(gone:List Int):AV:=
 if (bookB b&&goneB b.moulds.length gone)=true then
  if allDays b.moulds=true then .tuple [.bool (clearB (leadF b) gone b.moulds.length),.int .i64 0]
  else .tuple [.bool false,.int .i64 7]
 else .tuple [.bool false,.int .i64 2]
theorem goneF_drop{n:Nat}{l:List Int}{k:Nat}{x:Int}(hx:l[k]? =some x)(last:Int):goneF n (l.drop k) last=(inB x (last+1) ((n:Int) - 1)&&goneF n (l.drop (k+1)) x):=by
 have hk:=(List.getElem?_eq_some_iff.1 hx);obtain⟨h1,h2⟩:=hk;rw[List.drop_eq_getElem_cons h1,h2];rfl
section
variable{c:Itr}
attribute [local irreducible] goneF
theorem C118(cx:CxB c)(hc:c 118=none)(h119:(dX c).intr 119=some (pureFn sp119)){a:AV}{b:Bk}{sa:AV}(hb:bkV a=some b)(ha:a= .agg [.int .i64 b.miss,.int .i64 b.ghost,sa])(hm:MdsV sa b.moulds)(ga:AV)(gone:List Int)(hga:slV intC ga=some gone)(i j:Nat)(h:Heap)(g0:h.get i=some (.var [ga]))(g1:h.get j=some (.var [.int .i64 b.miss,.int .i64 b.ghost,sa])) :
  Cl (dX c) 118 [.ptr i 0,.ptr j 0] h (.ret (.bool (goneB b.moulds.length gone)) h none):=by
 refine ClR.cl ?_;have os:=hm.out;have hlen:=hm.len;have hmx:=hm.max;have og:=sl_out hga;have lg:=sl_len hga;have mg:=sl_max hga;have HGA:=J1 hga;have hw:IntKind.i64.wrap ((b.moulds.length:Int) - 1)=(b.moulds.length:Int) - 1:=wrap_small (by omega) (by unfold maxL at hmx;omega);obtain⟨hn,hm0⟩:=h;simp only[hp_get]at g0 g1;have h0:goneB b.moulds.length gone=goneF b.moulds.length (gone.drop 0) (-1):=rfl;rw[h0];have HMX:=J1 hmx;clear hb ha hm hga h0 hmx;refine ClR.walk (c:=_) hc Tryz.func118 rfl (by kernel_rfl) rfl (fun e=>by cases e) ?_
 try simp only[entryEnv,Nat.reduceAdd,List.nil_append,List.cons_append,emptyHp]
 repeat' (first|refine goS ?_|(refine go2 ?_ ?_<;>intro hh)|fail)
 refine W.loopH (gone.length) [1,6,7] [] (fun k e lm=>∃v,e.get 8=some (.int .i64 ↑k)/\e.get 3=some (.int .i64 v)/\(-1 <=v/\v <=70000)/\goneF b.moulds.length (gone.drop 0) (-1)=goneF b.moulds.length (gone.drop k) v) ?_ ?_
 ·skip
  refine⟨-1,?_,?_,by omega,rfl⟩;all_goals simp[go_sem, *]
 intro k e lm hk0 hce hcl hinv;simp only[keepE,and_true]at hce;obtain⟨c1,c6,c7⟩:=hce;simp only[go_sem, *,Nat.reduceBEq,Nat.reduceEqDiff,reduceIte]at c1 c6 c7;clear hcl;obtain⟨v,h8,h3,hv,hq⟩:=hinv;by_cases hlt:k<gone.length
 ·have hd0:=dT hlt
  have hv_0:=wrap_succ hlt mg;obtain⟨x,hx⟩:=get_some hlt;have hix:=fun H=>ints_idx HGA.out hx H;have hdr:=goneF_drop (n:=b.moulds.length) hx v;have hwv:IntKind.i64.wrap (v+1)=v+1:=wrap_small (by omega) (by omega);rw[hdr]at hq;have HQ:=J1 hq;have HLT0:=J1 hlt;clear hx hdr hq hlt;cases hin:inB x (v+1) ((b.moulds.length:Int) - 1)with
  |false=>
   have hq:=HQ.out;rw[hin,Bool.false_and]at hq;rw[hq];clear hq hv;repeat' (first|refine goS ?_|refine uJ (K119 h119 _ _ _ _) ?_|(refine go2 ?_ ?_<;>intro hh)|fail)
   all_goals (simp only[rV Tryz.func118,Tryz.results118];first|exact J5|refine J6 ?_)
   all_goals rfl
  | true =>
   have hq:=HQ.out;rw[hin,Bool.true_and]at hq;have HQ2:=J1 hq;have hbx:-1 <=x/\x <=70000:=by
    have h2:=hin;simp only[inB,Bool.and_eq_true,decide_eq_true_eq]at h2;have:=HMX.out;unfold maxL at this;omega
   have HBX:=J1 hbx;clear hq hv hbx;repeat' (first|refine goS ?_|refine uJ (K119 h119 _ _ _ _) ?_|(refine go2 ?_ ?_<;>intro hh)|fail)
   all_goals refine contH_mk J9 J7 J8 ?_
   all_goals refine⟨x,?_,?_,HBX.out,HQ2.out⟩
   all_goals first|exact Z2|skip
 ·have hd0:=dF hlt
  obtain rfl:k=gone.length:=by omega
  have hdn:goneF b.moulds.length (gone.drop gone.length) v=true:=by rw[List.drop_length];unfold goneF;rfl
  rw[hq,hdn];clear hq hdn hv;repeat' (first|refine goS ?_|(refine go2 ?_ ?_<;>intro hh)|fail)
  all_goals (simp only[rV Tryz.func118,Tryz.results118];first|exact J5|refine J6 ?_)
  all_goals rfl
attribute [local irreducible] goneB
theorem C51(cx:CxB c)(cx2:CxH c)(hc:c 51=none)(hc118:c 118=none)(hc111:c 111=none)(hc113:c 113=none)(hc93:c 93=none)(h119:(dX c).intr 119=some (pureFn sp119))(h145:(dX c).intr 145=some (flatFn sp145))(b:Bk)(sa:AV)(hb:bkV (.agg [.int .i64 b.miss,.int .i64 b.ghost,sa])=some b)(hm:MdsV sa b.moulds)(ga:AV)(gone:List Int)(hga:slV intC ga=some gone) :
  ClR (dX c) 51 [.agg [.int .i64 b.miss,.int .i64 b.ghost,sa],ga] emptyHp (isRet (clearV b gone)):=by
 unfold clearV;have og:=sl_out hga;have os:=hm.out;have hcs:=hm.cells;have hts:=hm.tup;have hcg:=(slV_is hga).1.cells;have htg:=(slV_is hga).1.tup;simp only[AV.cells]at hcg;simp only[isTuple]at htg;have h118:=fun hn hm'=>C118 cx hc118 h119 hb rfl hm ga gone hga 1 0 ⟨hn,hm'⟩;obtain⟨m3,hm3⟩:∃m3:Mp Blk,m3=((Mp.nil.set 0 (.var [.int .i64 b.miss,.int .i64 b.ghost,sa])).set 1 (.var [ga])):=⟨_,rfl⟩;have h74:=C74 cx.toCxA b sa hb hm 118 [] [.ptr 1 0,.ptr 0 0] (goneB b.moulds.length gone) 2 m3 (fun _=>h118 _ _ (by rw[hm3];(simp only[Heap.get_new,Heap.get_put,hp_get,Mp.get_set,reduceIte];repeat (first|rw[if_pos rfl]|rw[if_neg (by omega)]))) (by rw[hm3];(simp only[Heap.get_new,Heap.get_put,hp_get,Mp.get_set,reduceIte];repeat (first|rw[if_pos rfl]|rw[if_neg (by omega)]))))
 unfold ClR at h74;obtain⟨r,hca,hr⟩:=h74;simp only[AV.cells]at hcs;simp only[isTuple]at hts;unfold askR at hr;rw[hm3]at hca;cases hb1:(bookB b&&(goneB b.moulds.length gone))with
 |false=>
  rw[hb1]at hr;simp only[Bool.false_eq_true,if_false]at hr ⊢;obtain⟨⟨zn,zm⟩,rfl,_⟩:=hr;have h2:((2:Int) !=0)=true:=rfl;unfold zeroO at hca;clear hb hm h118;refine ClR.walk (c:=_) hc Tryz.func51 rfl (by kernel_rfl) rfl isRet_fail ?_
  try simp only[entryEnv,Nat.reduceAdd,List.nil_append,List.cons_append,emptyHp]
  repeat' (first|refine goS ?_|refine uJ hca ?_|(refine go2 ?_ ?_<;>intro hh)|fail)
  all_goals (simp only[rV Tryz.func51,Tryz.results51];first|exact J5|refine J6 ?_)
 | true =>
  rw[hb1]at hr;simp only[if_true]at hr ⊢;cases had:allDays b.moulds with
  |false=>
   rw[had]at hr;simp only[Bool.false_eq_true,if_false]at hr ⊢;obtain⟨⟨zn,zm⟩,rfl,_⟩:=hr;have h2:((7:Int) !=0)=true:=rfl;unfold zeroO at hca;clear hb hm h118;refine ClR.walk (c:=_) hc Tryz.func51 rfl (by kernel_rfl) rfl isRet_fail ?_
   try simp only[entryEnv,Nat.reduceAdd,List.nil_append,List.cons_append,emptyHp]
   repeat' (first|refine goS ?_|refine uJ hca ?_|(refine go2 ?_ ?_<;>intro hh)|fail)
   all_goals (simp only[rV Tryz.func51,Tryz.results51];first|exact J5|refine J6 ?_)
  |true=>
   rw[had]at hr;simp only[if_true]at hr ⊢;obtain⟨dv,bv,ps,⟨zn,zm⟩,rfl,hS,hx⟩:=hr;simp only[Bool.and_eq_true]at hb1;have hO:OpO b.moulds dv bv ⟨zn,zm⟩:=⟨_,ps,hS⟩;have o1:=hS.bd.blt.out;have o2:=hS.bb.blt.out;have o3:=hS.bd.blt.cells;have o4:=hS.bb.blt.cells;have o5:=hS.bd.blt.tup;have o6:=hS.bb.blt.tup;simp only[AV.cells]at o3 o4;simp only[isTuple]at o5 o6;have h2:((0:Int) !=0)=false:=rfl;have hzn:2 <=zn:=hx.1;have q0:zm.get 0=some (.var [.int .i64 b.miss,.int .i64 b.ghost,sa]):=(hx.2 0 (by show 0<2;decide)).trans (by rw[hm3];exact J10);have q1:zm.get 1=some (.var [ga]):=(hx.2 1 (by show 1<2;decide)).trans (by rw[hm3];exact J10);obtain⟨hbk,hgb⟩:=hb1;have k111:=C111 (c:=c) cx2 hc111 hc93 b sa dv bv hbk hm zn zm hO;unfold ClR at k111;obtain⟨r,k111,id,⟨wn,wm⟩,rfl,hmp,hxw,hi1,hi2⟩:=k111;have hlf:∀m w,leadF b m w<64:=fun m w=>leadF_lt hm hbk m w;have y1:wm.get 1=_:=(hxw.2 1 (by show 1<zn;omega)).trans q1;have k113:=C113 (c:=c) hc113 cx2.h146 cx2.h171 h145 b.miss b.ghost sa dv bv o1 o2 b.moulds hm (leadF b) hlf id ga gone og ⟨wn,wm⟩ (SeeV.of hga _) hmp;generalize clearB (leadF b) gone b.moulds.length=res at *;clear hb hm h118 hS hO hx hbk hgb hmp hxw hi1 hi2 hlf hga;refine ClR.walk (c:=_) hc Tryz.func51 rfl (by kernel_rfl) rfl isRet_fail ?_
   try simp only[entryEnv,Nat.reduceAdd,List.nil_append,List.cons_append,emptyHp]
   repeat' (first|(apply W.draw (id:=4) (lc:=[0,1,2,3,4,5,6]) (hot:=[(0,2),(2,3)]);kernel_rfl;kernel_rfl;kernel_rfl;exact Z4)|(refine WD.cons rfl rfl ?_)|(refine WD.nil ⟨?_,?_⟩;rotate_left;simp only[tN,bN,eN,true_and])|(refine calmR rfl rfl rfl rfl rfl ?_ ?_;(focus (first|exact Z2|exact Z1)))|(refine calmE rfl rfl rfl rfl rfl ?_ ?_;(focus (first|exact Z2|exact Z1)))|(with_reducible refine calmEnd)|refine go1 ?_|refine uJ hca ?_|refine uJ k111 ?_|refine uJ k113 ?_|(refine go2 ?_ ?_<;>intro hh)|fail)
   all_goals (simp only[rV Tryz.func51,Tryz.results51];first|exact J5|refine J6 ?_)
end
end
section
section
variable{X:Ctx}{ops:Array Oper}{K P:AV->Fr->Prop}{F:Fr}{d:Option Tmp}{T:TypeId}{p:String}{af:Array Edge}
theorem WO1.append0{args:Array Operand}{at_:Array TypeId}{t u e e':TypeId}{tl:List TypeId}{sz:Nat}{x y:AV}{new:List AV}(hx:x= .vempty\/x= .nilslice)(hargs:F.opvs args.toList=some [x,y])(ht:at_.toList=t::u::tl)(hu:X.P.underlying u=some (.slice e'))
  (hel:elemT X.P t=some e) (hs:szT X.P e=sz) (hrow:rowable X.P e=true) (hy:F.hp.elems y=some new) (hsz:∀v∈new,v.cells.length=sz) (hlen:new.length <=most) (hne:new≠[])
  (h:K (.row F.hp.next 0 new.length) (({ F with hp:=F.hp.new (.rw sz new) }:Fr).put d (.row F.hp.next 0 new.length))):WO1 X ops ⟨d,.call ⟨.builtin .append,args,at_⟩,T,p,af,none⟩ F K P:=by
 subst hs;have h1:(new.all fun v=>v.cells.length==szT X.P e)=true:=List.all_eq_true.2 fun v hv=>by simpa using hsz v hv
 have h2:¬new.length=0:=by simpa using hne
 have e1:appendV X.P F t x new=some (.row F.hp.next 0 new.length,{ F with hp:=F.hp.new (.rw (szT X.P e) new) }):=by
  rcases hx with rfl|rfl<;>simp[appendV,hel,h1,hrow,hlen,h2,hne]
 refine U5 (v:=.row F.hp.next 0 new.length) (F':={ F with hp:=F.hp.new (.rw (szT X.P e) new) }) rfl (fun cl rd=>?_) h
 simp only[efV,Fr.callOp,Fr.builtinE,Fr.appendE,ht,hargs,hu];cases y<;>first|(simp only[hy,e1,okO];done)|simp[Heap.elems]at hy
end
def clR(h:Heap)(l:List AV)(r:COut):Prop:=∃v h',r= .ret v h' none/\BltN h.next h' v 1 l/\HExt h h'
theorem clR_fail{h:Heap}{l:List AV}:¬clR h l .fail:=by rintro⟨_,_,e,_⟩;cases e
theorem clR_ret{h h':Heap}{v:AV}{l:List AV}(b:BltN h.next h' v 1 l)(x:HExt h h'):clR h l (.ret v h' none):=⟨v,h',rfl,b,x⟩
attribute [local irreducible] clR
theorem hext_new(h:Heap)(b:Blk):HExt h (h.new b):=⟨Nat.le_succ _,fun id hi=>by rw[Heap.get_new,if_neg (by omega)]⟩
theorem eq36n:binV Tryz.prog .eql 36 true .nilslice .nilslice=some (.bool true):=by
 simp[binV,eqOp,eqV,isSliceT,whenB,Tryz.underlying36]
theorem eq36r(id n:Nat):binV Tryz.prog .eql 36 true (.row id 0 n) .nilslice=some (.bool false):=by
 simp[binV,eqOp,eqV,isSliceT,whenB,Tryz.underlying36]
theorem C114(c:Itr)(hc:c 114=none)(a:AV)(p:List Nat)(h:Heap)(b:Blt h a 1 (natsE p))(hm:p.length <=1000):ClR (dX c) 114 [a] h (clR h (natsE p)):=by
 have hsz:∀v∈natsE p,v.cells.length=1:=fun v hv=>by
  obtain⟨k,_,rfl⟩:=List.mem_map.1 hv;rfl
 have hlen:(natsE p).length <=most:=by rw[natsE_len];unfold most;omega
 refine ClR.walk (c:=_) hc Tryz.func114 rfl (by kernel_rfl) rfl clR_fail ?_;simp only[entryEnv,Nat.reduceAdd];rcases b with⟨rfl,hnil⟩|⟨id,rfl,hg,hid,hne⟩
 ·have HN:=J1 hnil
  have hq:=eq36n;clear hsz hlen hnil;repeat' (first|refine goS ?_|(refine go2 ?_ ?_<;>intro hh)|fail)
  all_goals (simp only[rV Tryz.func114,Tryz.results114];first|exact J5|refine J6 ?_)
  rw[HN.out];exact clR_ret BltN.nil (HExt.refl h)
 ·have hel:h.elems (.row id 0 (natsE p).length)=some (natsE p):=by simp[Heap.elems,hg]
  have hq:=eq36r id (natsE p).length;have HG:=J1 hg;have HI:=J1 hid;clear hg hid;repeat' (first|(apply WO1.append0 (t:=36) (u:=36) (e:=3) (e':=3) (sz:=1) (tl:=[]) (new:=natsE p) (hx:=.inl rfl);exact Z1;exact rfl;exact Z2;exact Z2;exact Z2;(focus (exact ty_row36));(focus (first|exact Z2|exact hel));(focus (exact hsz));(focus (exact hlen));(focus (exact hne));simp only[pM,pN])|refine go1 ?_|(refine go2 ?_ ?_<;>intro hh)|fail)
  all_goals (simp only[rV Tryz.func114,Tryz.results114];first|exact J5|refine J6 ?_)
  refine clR_ret (.inr ⟨h.next,rfl,?_,Nat.le_refl _,Nat.lt_succ_self _,hne⟩) (hext_new _ _);rw[Heap.get_new,if_pos rfl]
def sp172:List AV->Option AV
 | [.int .i64 _]=>some (.bool false)
 |_=>none
theorem p172:∀args v,sp172 args=some v->v.pur=true:=by
 intro args v h;unfold sp172 at h;split at h
 ·cases h;rfl
 ·cases h
theorem F172:IntrFn Tryz.prog 172 (pureFn sp172):=by
 refine pure_fn (X:=dX i0) i0_sound p172 ?_;intro args v h;unfold sp172 at h;split at h
 ·rename_i x
  cases h;have hn:(x !=x)=false:=by simp
  refine ClR.walk (c:=_) rfl Tryz.func172 rfl (by kernel_rfl) rfl isRet_fail ?_;simp only[entryEnv,Nat.reduceAdd];repeat' (first|refine goS ?_|(refine go2 ?_ ?_<;>intro hh)|fail)
  all_goals (simp only[rV Tryz.func172,Tryz.results172];first|exact J5|refine J6 ?_)
 ·cases h
theorem K172{X:Ctx}(hX:X.intr 172=some (pureFn sp172))(x:Int)(h:Heap):Cl X 172 [.int .i64 x] h (.ret (.bool false) h none):=Cl.intr hX rfl
def cmpI(x y:Int):Int:=if x<y then -1 else if x>y then 1 else 0
def sp147:List AV->Option AV
 | [.int .i64 x,.int .i64 y]=>some (.int .i64 (cmpI x y))
 |_=>none
theorem p147:∀args v,sp147 args=some v->v.pur=true:=by
 intro args v h;unfold sp147 at h;split at h
 ·cases h;rfl
 ·cases h
noncomputable def c147:Itr
 |172=>some (pureFn sp172)
 |_=>none
theorem c147_sound:Sound (dX c147):=dX_sound (fun f g h=>by
 unfold c147 at h;split at h
 ·cases h;exact F172
 ·cases h)
theorem F147:IntrFn Tryz.prog 147 (pureFn sp147):=by
 refine pure_fn (X:=dX c147) c147_sound p147 ?_;intro args v h;unfold sp147 at h;split at h
 ·rename_i x y
  cases h;have h172:(dX c147).intr 172=some (pureFn sp172):=rfl;refine ClR.walk (c:=_) rfl Tryz.func147 rfl (by kernel_rfl) rfl isRet_fail ?_;simp only[entryEnv,Nat.reduceAdd];repeat' (first|refine goS ?_|refine uJ (K172 h172 _ _) ?_|(refine go2 ?_ ?_<;>intro hh)|fail)
  all_goals (simp only[rV Tryz.func147,Tryz.results147];first|exact J5|refine J6 ?_)
  all_goals simp_all [cmpI]
  all_goals omega
 ·cases h
theorem K147{X:Ctx}(hX:X.intr 147=some (pureFn sp147))(x y:Int)(h:Heap):Cl X 147 [.int .i64 x,.int .i64 y] h (.ret (.int .i64 (cmpI x y)) h none):=Cl.intr hX rfl
def cmpL:List Int->List Int->Int
 | [],[]=>0
 | [],_::_=>-1
 |_::_,[]=>1
 |x::l,y::r=>if cmpI x y≠0 then cmpI x y else cmpL l r
def sp117:List AV->Option AV
 | [a,b]=>match slV intC a,slV intC b with
  |some l,some r=>some (.int .i64 (cmpL l r))
  |_,_=>none
 |_=>none
theorem p117:∀args v,sp117 args=some v->v.flat=true:=by
 intro args v h;unfold sp117 at h;split at h
 ·split at h
  ·cases h;rfl
  ·cases h
 ·cases h
theorem cmpL_drop{l r:List Int}{k:Nat}{x y:Int}(hx:l[k]? =some x)(hy:r[k]? =some y):cmpL (l.drop k) (r.drop k)=if cmpI x y≠0 then cmpI x y else cmpL (l.drop (k+1)) (r.drop (k+1)):=by
 obtain⟨h1,h2⟩:=List.getElem?_eq_some_iff.1 hx;obtain⟨h3,h4⟩:=List.getElem?_eq_some_iff.1 hy;rw[List.drop_eq_getElem_cons h1,List.drop_eq_getElem_cons h3,h2,h4];rfl
noncomputable def c117:Itr
 |147=>some (pureFn sp147)
 |_=>none
theorem c117_sound:Sound (dX c117):=dX_sound (fun f g h=>by
 unfold c117 at h;split at h
 ·cases h;exact F147
 ·cases h)
attribute [local irreducible] cmpL cmpI
theorem C117(l r:List Int)(a b:AV)(ha:slV intC a=some l)(hb:slV intC b=some r):ClR (dX c117) 117 [a,b] emptyHp (isRet (.int .i64 (cmpL l r))):=by
 have oa:=sl_out ha;have la:=sl_len ha;have ma:=sl_max ha;have ob:=sl_out hb;have lb:=sl_len hb;have mb:=sl_max hb;have HA:=J1 ha;have HB:=J1 hb;have h147:(dX c117).intr 147=some (pureFn sp147):=rfl;have e0:cmpL l r=cmpL (l.drop 0) (r.drop 0):=rfl;rw[e0];clear ha hb e0;have hc:c117 117=none:=rfl;refine ClR.walk (c:=_) hc Tryz.func117 rfl (by kernel_rfl) rfl isRet_fail ?_
 try simp only[entryEnv,Nat.reduceAdd,List.nil_append,List.cons_append,emptyHp]
 repeat' (first|refine goS ?_|(refine go2 ?_ ?_<;>intro hh)|fail)
 refine W.loopH (l.length) [0,1,9,10] [] (fun k e lm=>e.get 11=some (.int .i64 ↑k)/\k <=r.length/\cmpL (l.drop 0) (r.drop 0)=cmpL (l.drop k) (r.drop k)) ?_ ?_
 ·skip
  refine⟨?_,Nat.zero_le _,rfl⟩;simp[go_sem, *]
 intro k e lm hk0 hce hcl hinv;simp only[keepE,and_true]at hce;obtain⟨c0,c1,c9,c10⟩:=hce;simp only[go_sem, *,Nat.reduceBEq,Nat.reduceEqDiff,reduceIte]at c0 c1 c9 c10;clear hcl;obtain⟨h11,hk2,hq⟩:=hinv;by_cases hlt:k<l.length
 ·have hd0:=dT hlt
  have hv_0:=wrap_succ hlt ma;obtain⟨x,hx⟩:=get_some hlt;have hix:=fun H=>ints_idx HA.out hx H;by_cases hkr:k<r.length
  ·obtain⟨y,hy⟩:=get_some hkr
   have hiy:=fun H=>ints_idx HB.out hy H;have hge:decide ((k:Int) >=(r.length:Int))=false:=by simp;omega
   have hdr:=cmpL_drop hx hy;rw[hdr]at hq;have HQ:=J1 hq;have HLT0:=J1 hlt;have HKR:=J1 hkr;clear hx hy hdr hq hlt hkr hk2;by_cases hz:cmpI x y=0
   ·have hne:(cmpI x y !=0)=false:=by rw[hz];rfl
    have hq:=HQ.out;rw[if_neg (by simpa using hz)]at hq;have HQ2:=J1 hq;have hk3:k+1 <=r.length:=HKR.out;have HK3:=J1 hk3;clear hq hz hk3;repeat' (first|refine goS ?_|refine uJ (K147 h147 _ _ _) ?_|(refine go2 ?_ ?_<;>intro hh)|fail)
    all_goals refine contH_mk J9 J7 J8 ?_
    all_goals refine⟨?_,HK3.out,HQ2.out⟩
    all_goals first|exact Z2|skip
   ·have hne:(cmpI x y !=0)=true:=by simpa using hz
    have hq:=HQ.out;rw[if_pos (by simpa using hz)]at hq;rw[hq];clear hq hz;repeat' (first|refine goS ?_|refine uJ (K147 h147 _ _ _) ?_|(refine go2 ?_ ?_<;>intro hh)|fail)
    all_goals (simp only[rV Tryz.func117,Tryz.results117];first|exact J5|refine J6 ?_)
  ·have hge:decide ((k:Int) >=(r.length:Int))=true:=by simp;omega
   have hdl:r.drop k=[]:=List.drop_eq_nil_of_le (by omega);have hd2:l.drop k=x::l.drop (k+1):=by
    obtain⟨h1,h2⟩:=List.getElem?_eq_some_iff.1 hx;rw[List.drop_eq_getElem_cons h1,h2]
   rw[hdl,hd2]at hq;have e1:cmpL (x::l.drop (k+1)) []=1:=by unfold cmpL;rfl
   rw[hq,e1];clear hq hdl hd2 e1 hx hkr hk2;repeat' (first|refine goS ?_|(refine go2 ?_ ?_<;>intro hh)|fail)
   all_goals (simp only[rV Tryz.func117,Tryz.results117];first|exact J5|refine J6 ?_)
 ·have hd0:=dF hlt
  obtain rfl:k=l.length:=by omega
  rw[hq,List.drop_length];by_cases hlr:l.length<r.length
  ·have e1:decide ((l.length:Int)<(r.length:Int))=true:=by simpa using hlr
   obtain⟨y,hy⟩:=get_some hlr;have hd2:r.drop l.length=y::r.drop (l.length+1):=by
    obtain⟨h1,h2⟩:=List.getElem?_eq_some_iff.1 hy;rw[List.drop_eq_getElem_cons h1,h2]
   have e2:cmpL [] (r.drop l.length)= -1:=by rw[hd2];unfold cmpL;rfl
   rw[e2];clear hq hd2 e2 hy hlr;repeat' (first|refine goS ?_|(refine go2 ?_ ?_<;>intro hh)|fail)
   all_goals (simp only[rV Tryz.func117,Tryz.results117];first|exact J5|refine J6 ?_)
  ·have e1:decide ((l.length:Int)<(r.length:Int))=false:=by simpa using hlr
   have e2:cmpL [] (r.drop l.length)=0:=by rw[List.drop_eq_nil_of_le (by omega)];unfold cmpL;rfl
   rw[e2];clear hq e2 hlr;repeat' (first|refine goS ?_|(refine go2 ?_ ?_<;>intro hh)|fail)
   all_goals (simp only[rV Tryz.func117,Tryz.results117];first|exact J5|refine J6 ?_)
theorem F117:IntrFn Tryz.prog 117 (flatFn sp117):=by
 refine flat_fn (X:=dX c117) c117_sound p117 ?_;intro args v h;unfold sp117 at h;split at h
 ·split at h
  ·rename_i l r ha hb
   cases h;exact C117 l r _ _ ha hb
  ·cases h
 ·cases h
theorem K117{X:Ctx}(hX:X.intr 117=some (flatFn sp117)){a b:AV}{l r:List Int}{h:Heap}(ha:SeeV h intC a l)(hb:SeeV h intC b r):Cl X 117 [a,b] h (.ret (.int .i64 (cmpL l r)) h none):=by
 obtain⟨a',v1,s1⟩:=ha;obtain⟨b',v2,s2⟩:=hb;exact Cl.intr hX (by simp[flatFn,viewVs,v1,v2,sp117,s1,s2])
def betB(l r:List Int):Bool:=decide ((l.length:Int)<r.length)||(((l.length:Int)==r.length)&&decide (cmpL l r<0))
section
variable{c:Itr}
theorem C116(hc:c 116=none)(h117:(dX c).intr 117=some (flatFn sp117)){a b:AV}{l r:List Int}{h:Heap}(la:lenS a=some l.length)(lb:lenS b=some r.length)(oa:outV (some a)=some a)(ob:outV (some b)=some b)(ha:SeeV h intC a l)(hb:SeeV h intC b r):Cl (dX c) 116 [a,b] h (.ret (.bool (betB l r)) h none):=by
 refine ClR.cl ?_;have k117:=fun _:Unit=>K117 h117 ha hb;unfold betB;clear ha hb;cases h1:decide ((l.length:Int)<r.length)
 ·cases h2:((l.length:Int)==r.length)
  ·skip
   refine ClR.walk (c:=_) hc Tryz.func116 rfl (by kernel_rfl) rfl (fun e=>by cases e) ?_
   try simp only[entryEnv,Nat.reduceAdd,List.nil_append,List.cons_append,emptyHp]
   repeat' (first|refine gJ ?_|refine go1 ?_|(apply U6;exact Z1;exact Z1;(exact k117 ());simp only[pM,pN,rR,rP])|(refine go2 ?_ ?_<;>intro hh)|fail)
   all_goals (simp only[rV Tryz.func116,Tryz.results116];first|exact J5|refine J6 ?_)
   all_goals simp[isR,frzRes,dX_frz,dFrz]
  ·skip
   refine ClR.walk (c:=_) hc Tryz.func116 rfl (by kernel_rfl) rfl (fun e=>by cases e) ?_
   try simp only[entryEnv,Nat.reduceAdd,List.nil_append,List.cons_append,emptyHp]
   repeat' (first|refine gJ ?_|refine go1 ?_|(apply U6;exact Z1;exact Z1;(exact k117 ());simp only[pM,pN,rR,rP])|(refine go2 ?_ ?_<;>intro hh)|fail)
   all_goals (simp only[rV Tryz.func116,Tryz.results116];first|exact J5|refine J6 ?_)
   all_goals simp[isR,frzRes,dX_frz,dFrz]
 ·skip
  refine ClR.walk (c:=_) hc Tryz.func116 rfl (by kernel_rfl) rfl (fun e=>by cases e) ?_
  try simp only[entryEnv,Nat.reduceAdd,List.nil_append,List.cons_append,emptyHp]
  repeat' (first|refine gJ ?_|refine go1 ?_|(apply U6;exact Z1;exact Z1;(exact k117 ());simp only[pM,pN,rR,rP])|(refine go2 ?_ ?_<;>intro hh)|fail)
  all_goals (simp only[rV Tryz.func116,Tryz.results116];first|exact J5|refine J6 ?_)
  all_goals simp[isR,frzRes,dX_frz,dFrz]
end
end
end Go.AM
