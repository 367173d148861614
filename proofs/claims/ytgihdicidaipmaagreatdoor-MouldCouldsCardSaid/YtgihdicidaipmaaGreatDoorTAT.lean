/-
    A part of the proof: contracts of functions.
-/
import Derived.Test.YtgihdicidaipmaaGreatDoorTAS
set_option linter.unusedSectionVars false
set_option linter.unusedVariables false
set_option linter.unusedSimpArgs false
set_option maxRecDepth 100000
set_option maxHeartbeats 16000000
namespace Go.AM
open Go Go.Proofs
variable[Keep]
attribute [local irreducible] W WO WO1 WD WQ WT thenQ blockQ endR isRet retK Cl ClR
attribute [local irreducible] roundQ RdR patC memP grownS setP cutF birF houN entE allK rowK leadF clearB
theorem natsE_nil:natsE []=([]:List AV):=by unfold natsE;rfl
theorem loopW_len(ok:List Nat->Bool)(N:Nat):∀(d:Nat) (g:List Nat),(loopW ok N d g).length+1 <=2 ^ d
 |0,g=>by simp[loopW]
 |d+1,g=>by
  have h1:=loopW_len ok N d (g++[N - (d+1)]);have h2:=loopW_len ok N d g;rw[loopW_succ];unfold nodeW;simp only[List.length_append];have h3:(if ok (g++[N - (d+1)])=true then [g++[N - (d+1)]]else []).length <=1:=by split<;>simp
  have h4:2 ^ (d+1)=2 ^ d+2 ^ d:=by rw[Nat.pow_succ];omega
  omega
theorem nodeW_len(ok:List Nat->Bool)(N d:Nat)(g:List Nat):(nodeW ok N d g).length <=2 ^ d:=by
 have h1:=loopW_len ok N d g;unfold nodeW;have h3:(if ok g=true then [g]else []).length <=1:=by split<;>simp
 simp only[List.length_append];omega
theorem loopW_sub(ok:List Nat->Bool)(N:Nat):∀(d:Nat) (g:List Nat) (x:List Nat),x∈loopW ok N d g->x.length <=g.length+d
 |0,g,x,h=>by cases h
 | d + 1, g, x, h => by
  rw[loopW_succ]at h;rcases List.mem_append.1 h with h|h
  ·unfold nodeW at h
   rcases List.mem_append.1 h with h|h
   ·split at h
    ·rw[List.mem_singleton]at h
     subst h;simp
    ·cases h
   ·have:=loopW_sub ok N d _ x h
    simp only[List.length_append,List.length_cons,List.length_nil]at this;omega
  ·have:=loopW_sub ok N d g x h
   omega
theorem nodeW_sub(ok:List Nat->Bool)(N d:Nat)(g:List Nat)(x:List Nat)(h:x∈nodeW ok N d g):x.length <=g.length+d:=by
 unfold nodeW at h;rcases List.mem_append.1 h with h|h
 ·split at h
  ·rw[List.mem_singleton]at h
   subst h;omega
  ·cases h
 ·exact loopW_sub ok N d g x h
def okW(b:Bk)(g:List Nat):Bool:=clearB (leadF b) (intsN g) b.moulds.length
theorem okW_is(b:Bk)(g:List Nat):clearB (leadF b) (intsN g) b.moulds.length=okW b g:=rfl
theorem upTo_mem(N:Nat):∀(d k:Nat),d <=N->(k∈upTo N d↔N - d <=k/\k<N)
 |0,k,h=>by unfold upTo;simp
 |d+1,k,h=>by
  unfold upTo;rw[List.mem_cons,upTo_mem N d k (by omega)];omega
theorem orL_full{f:Nat->Nat->Nat}{gone:List Int}{w:Nat}:∀n:Nat,(∀k:Nat,k<n->(gone.any fun x=>decide ((k:Int)=x))=true)->orL f gone w n=0
 |0,_=>orL_zero f gone w
 |k+1,h=>by
  rw[orL_gone (h k (by omega))];exact orL_full k fun j hj=>h j (by omega)
theorem okW_full{b:Bk}:bookB b=true->∀(b2:Bk) {sa:AV},MdsV sa b.moulds->okW b (upTo b.moulds.length b.moulds.length)=true:=fun _ _ _ _=>by
 unfold okW;refine clearB_yes fun j hj=>?_;unfold clearP;rw[orL_full]
 ·decide
 ·intro k hk
  rw[List.any_eq_true];refine⟨(k:Int),?_,by simp⟩;unfold intsN;exact List.mem_map.2 ⟨k,(upTo_mem _ _ k (Nat.le_refl _)).2 ⟨by omega,hk⟩,rfl⟩
def bestP(o:List Nat)(l:List (List Nat)):List Nat:=l.foldl (fun o x=>if betB (intsN x) (intsN o)=true then x else o) o
def bestN(l:List (List Nat)):List Nat:=bestP (l.headD []) l
def withV(b:Bk):AV:=
 if (bookB b&&true)=true then
  if allDays b.moulds=true then .tuple [slN (natsE (bestN (nodeW (okW b) b.moulds.length b.moulds.length []))),.int .i64 0]
  else .tuple [.nilslice,.int .i64 7]
 else .tuple [.nilslice,.int .i64 2]
attribute [local irreducible] okW nodeW loopW upTo betB natsE
theorem CanV.out{h:Heap}{cv:AV}{L:List (List Nat)}(q:CanV h cv L):outV (some cv)=some cv:=by
 obtain⟨us,b,_⟩:=q;exact b.out
section
variable{c:Itr}
theorem C110(hc:c 110=none)(h:Heap):Cl (dX c) 110 [] h (.ret (.bool true) h none):=by
 refine ClR.cl ?_;refine ClR.walk (c:=_) hc Tryz.func110 rfl (by kernel_rfl) rfl (fun e=>by cases e) ?_
 try simp only[entryEnv,Nat.reduceAdd,List.nil_append,List.cons_append,emptyHp]
 repeat' (first|refine goS ?_|(refine go2 ?_ ?_<;>intro hh)|fail)
 all_goals (simp only[rV Tryz.func110,Tryz.results110];first|exact J5|refine J6 ?_)
 all_goals rfl
theorem C112(cx:CxW c)(b:Bk)(sa dv bv:AV)(hbk:bookB b=true)(hm:MdsV sa b.moulds)(o1:outV (some dv)=some dv)(o2:outV (some bv)=some bv)(i1 i4 i6 i7 i8 mid:Nat)(N:Nat)(hN:b.moulds.length=N)(hN5:N <=1000)(ok:List Nat->Bool)(hok:∀g,clearB (leadF b) (intsN g) N=ok g)(d:Nat)(hd:d <=N) :
  ∀(ga:AV) (g:List Nat) (L:List (List Nat)) (cv:AV) (h:Heap),g.length+d <=N->L.length <=10000->Blt h ga 1 (natsE g)->EnvW b sa dv bv i1 i4 i6 i7 i8 mid h->h.get i7=some (.var [cv])->CanV h cv L->L.length+(nodeW ok N d g).length <=10000->
   ClR (dX c) 112 [ga,.int .i64 ((N - d:Nat):Int),.ptr i4 0,.ptr i6 0,.ptr i7 0,.ptr i1 0,.ptr i8 0] h (srchR i7 h (L++nodeW ok N d g)):=by
 induction d using Nat.strongRecOn with
 |_ d ih=>
  intro ga g L cv ⟨hn,hm0⟩ h1 h2 h3 h4 h5 h6 h7;exact L112 cx b sa dv bv hbk hm o1 o2 i1 i4 i6 i7 i8 mid N hN hN5 ok hok d hd (fun e he ga g L cv h=>ih e he (by omega) ga g L cv h) ga g L cv hn hm0 h1 h2 h3 h4 h5 h6 h7
def pickR(h:Heap)(g:List Nat)(r:COut):Prop:=∃u,r= .ret u h none/\Blt h u 1 (natsE g)
theorem pickR_fail{h:Heap}{g:List Nat}:¬pickR h g .fail:=by rintro⟨_,e,_⟩;cases e
theorem intsN_len(g:List Nat):(intsN g).length=g.length:=by unfold intsN;simp
theorem C115(hc:c 115=none)(hc116:c 116=none)(h117:(dX c).intr 117=some (flatFn sp117))(cv:AV)(L:List (List Nat))(hne:L≠[])(hL:L.length <=1000)(hsm:∀g∈L,g.length <=maxL)(h:Heap)(hC:CanV h cv L) :
  ClR (dX c) 115 [cv,.func (.func 116) [] []] h (pickR h (bestN L)):=by
 obtain⟨us,hcb,hcl,hci,hcg⟩:=hC;have oc:=hcb.out;have lc:=hcb.len;rw[hcl]at lc;obtain⟨g0,hg0⟩:=get_some (l:=L) (k:=0) (by cases L with|nil=>exact absurd rfl hne|cons a l=>simp)
 obtain⟨id,hcv,hgr⟩:∃id,cv= .row id 0 L.length/\h.get id=some (.rw 1 us):=by
  rcases hcb with⟨_,e⟩|⟨id,e1,e2,_⟩
  ·have:=congrArg List.length e
   simp[hcl]at this;exact absurd this hne
  ·exact⟨id,by rw[e1,hcl],e2⟩
 subst hcv;have hu:∀k,k<L.length->∃u g,us[k]? =some u/\L[k]? =some g/\Blt h u 1 (natsE g):=fun k hk=>by
  obtain⟨u,hu⟩:=get_some (l:=us) (k:=k) (by omega);obtain⟨g,hg⟩:=get_some hk;exact⟨u,g,hu,hg,hcg k u g hu hg⟩
 have hib:=fun k (hk:k<L.length)=>row_idx (t:=89) (e:=36) Tryz.underlying89 ty_lay36 hgr hk;obtain⟨u0,g1,hu0,hg1,hb0⟩:=hu 0 (List.getElem?_eq_some_iff.1 hg0).1;have hbe:bestN L=bestP g1 (L.take L.length):=by
  rw[List.take_length];unfold bestN;cases L with
  |nil=>exact absurd rfl hne
  |cons a l=>
   have:a=g1:=by simpa using hg1
   subst this;rfl
 rw[hbe];have hi0:=hib 0 (List.getElem?_eq_some_iff.1 hg0).1;rw[show ((0:Nat):Int)=0 from rfl]at hi0;have oc0:=hb0.cells;have oo0:=hb0.out;have ot0:=hb0.tup;simp only[AV.cells]at oc0;simp only[isTuple]at ot0;have hs0:(bestP g1 (L.take 0)).length <=maxL:=hsm g1 (List.mem_of_getElem? hg1);have HS0:=J1 hs0;have HSM:=J1 hsm;have HU:=J1 hu;have HIB:=J1 hib;have HB0:=J1 hb0;have HML:=J1 hL;obtain⟨hn,hm0⟩:=h;simp only[hp_get]at hgr;clear hu hib hcb hcl hci hcg hne hL hb0 hbe hg0 hg1 hsm hs0;refine ClR.walk (c:=_) hc Tryz.func115 rfl (by kernel_rfl) rfl pickR_fail ?_
 try simp only[entryEnv,Nat.reduceAdd,List.nil_append,List.cons_append,emptyHp]
 repeat' (first|refine goS ?_|(refine go2 ?_ ?_<;>intro hh)|fail)
 refine W.loopH (L.length) [1,11,12] [] (fun k e lm=>∃v,e.get 13=some (.int .i64 ↑k)/\e.get 5=some (v)/\Blt ⟨hn,hm0⟩ v 1 (natsE (bestP g1 (L.take k)))/\(bestP g1 (L.take k)).length <=maxL) ?_ ?_
 ·skip
  refine⟨u0,?_,?_,HB0.out,?_⟩
  ·simp[go_sem, *]
  ·simp[go_sem, *]
  ·exact HS0.out
 intro k e lm hk0 hce hcl hinv;simp only[keepE,and_true]at hce;obtain⟨c1,c11,c12⟩:=hce;simp only[go_sem, *,Nat.reduceBEq,Nat.reduceEqDiff,reduceIte]at c1 c11 c12;clear hcl;obtain⟨v,h13,h5,hbv,hlv⟩:=hinv;by_cases hlt:k<L.length
 ·have hd0:=dT hlt
  have hv_0:=wrap_succ hlt (by have:=HML.out;unfold maxL;omega);obtain⟨u,g,hku,hkg,hbu⟩:=HU.out k hlt;have hix:=HIB.out k hlt;have oc1:=hbu.cells;have oo1:=hbu.out;have ot1:=hbu.tup;have ov:=hbv.out;simp only[AV.cells]at oc1;simp only[isTuple]at ot1;have l1:=hbu.len;have l2:=hbv.len;rw[natsE_len,<-intsN_len]at l1 l2;have hgl:=HSM.out g (List.mem_of_getElem? hkg);have k116:=C116 (c:=c) hc116 h117 l1 l2 oo1 ov (see_nats hbu hgl) (see_nats hbv hlv);have hnx:bestP g1 (L.take (k+1))=if betB (intsN g) (intsN (bestP g1 (L.take k)))=true then g else bestP g1 (L.take k):=by
   unfold bestP;rw[take_next hkg,List.foldl_append];rfl
  have HNX:=J1 hnx;have HBU:=J1 hbu;have HBV:=J1 hbv;have HLV:=J1 hlv;have HLT0:=J1 hlt;have HGL:=J1 hgl;clear hnx hbu hbv hlv hlt l1 l2 hgl hkg;generalize betB (intsN g) (intsN (bestP g1 (L.take k)))=bb at *;cases bb with
  |true=>
   have hnx:=HNX.out;rw[if_pos rfl]at hnx;have HN2:=J1 hnx;clear hnx;repeat' (first|refine goS ?_|refine uJ k116 ?_|(refine go2 ?_ ?_<;>intro hh)|fail)
   all_goals refine contH_mk J9 J7 J8 ?_
   all_goals refine⟨u,?_,?_,?_,?_⟩
   all_goals first|exact Z2|skip
   ·rw[HN2.out];exact HBU.out
   ·rw[HN2.out];exact HGL.out
  |false=>
   have hnx:=HNX.out;rw[if_neg (by decide)]at hnx;have HN2:=J1 hnx;clear hnx;repeat' (first|refine goS ?_|refine uJ k116 ?_|(refine go2 ?_ ?_<;>intro hh)|fail)
   all_goals refine contH_mk J9 J7 J8 ?_
   all_goals refine⟨v,?_,?_,?_,?_⟩
   all_goals first|exact Z2|skip
   ·rw[HN2.out];exact HBV.out
   ·rw[HN2.out];exact HLV.out
 ·have hd0:=dF hlt
  obtain rfl:k=L.length:=by omega
  have ov:=hbv.out;have HBV:=J1 hbv;clear hbv hlv;repeat' (first|refine goS ?_|(refine go2 ?_ ?_<;>intro hh)|fail)
  all_goals (simp only[rV Tryz.func115,Tryz.results115];first|exact J5|refine J6 ?_)
  exact⟨_,rfl,HBV.out⟩
theorem C50(cx:CxB c)(cx2:CxH c)(cx3:CxW c)(hc:c 50=none)(hc110:c 110=none)(hc111:c 111=none)(hc93:c 93=none)(hc115:c 115=none)(hc116:c 116=none)(h117:(dX c).intr 117=some (flatFn sp117))(b:Bk)(sa:AV)(hb:bkV (.agg [.int .i64 b.miss,.int .i64 b.ghost,sa])=some b)(hm:MdsV sa b.moulds) :
  ClR (dX c) 50 [.agg [.int .i64 b.miss,.int .i64 b.ghost,sa]] emptyHp (isQ (withV b)):=by
 unfold withV;have os:=hm.out;have hcs:=hm.cells;have hts:=hm.tup;have h110:=fun h=>C110 (c:=c) hc110 h;obtain⟨m3,hm3⟩:∃m3:Mp Blk,m3=(Mp.nil.set 0 (.var [.int .i64 b.miss,.int .i64 b.ghost,sa])):=⟨_,rfl⟩;have h74:=C74 cx.toCxA b sa hb hm 110 [] [] (true) 1 m3 (fun _=>h110 _);unfold ClR at h74;obtain⟨r,hca,hr⟩:=h74;simp only[AV.cells]at hcs;simp only[isTuple]at hts;unfold askR at hr;rw[hm3]at hca;cases hb1:(bookB b&&(true))with
 |false=>
  rw[hb1]at hr;simp only[Bool.false_eq_true,if_false]at hr ⊢;obtain⟨⟨zn,zm⟩,rfl,_⟩:=hr;have h2:((2:Int) !=0)=true:=rfl;unfold zeroO at hca;clear hb hm h110;refine ClR.walk (c:=_) hc Tryz.func50 rfl (by kernel_rfl) rfl isQ_fail ?_
  try simp only[entryEnv,Nat.reduceAdd,List.nil_append,List.cons_append,emptyHp]
  repeat' (first|refine goS ?_|refine uJ hca ?_|(refine go2 ?_ ?_<;>intro hh)|fail)
  all_goals (simp only[rV Tryz.func50,Tryz.results50];first|exact J5|refine J6 ?_)
  all_goals exact isQ_ret (frz_t2 (.flat rfl) (.flat rfl))
 | true =>
  rw[hb1]at hr;simp only[if_true]at hr ⊢;cases had:allDays b.moulds with
  |false=>
   rw[had]at hr;simp only[Bool.false_eq_true,if_false]at hr ⊢;obtain⟨⟨zn,zm⟩,rfl,_⟩:=hr;have h2:((7:Int) !=0)=true:=rfl;unfold zeroO at hca;clear hb hm h110;refine ClR.walk (c:=_) hc Tryz.func50 rfl (by kernel_rfl) rfl isQ_fail ?_
   try simp only[entryEnv,Nat.reduceAdd,List.nil_append,List.cons_append,emptyHp]
   repeat' (first|refine goS ?_|refine uJ hca ?_|(refine go2 ?_ ?_<;>intro hh)|fail)
   all_goals (simp only[rV Tryz.func50,Tryz.results50];first|exact J5|refine J6 ?_)
   all_goals exact isQ_ret (frz_t2 (.flat rfl) (.flat rfl))
  | true =>
   rw[had]at hr;simp only[if_true]at hr ⊢;obtain⟨dv,bv,ps,⟨zn,zm⟩,rfl,hS,hx⟩:=hr;simp only[Bool.and_eq_true]at hb1;have hO:OpO b.moulds dv bv ⟨zn,zm⟩:=⟨_,ps,hS⟩;have o1:=hS.bd.blt.out;have o2:=hS.bb.blt.out;have o3:=hS.bd.blt.cells;have o4:=hS.bb.blt.cells;have o5:=hS.bd.blt.tup;have o6:=hS.bb.blt.tup;simp only[AV.cells]at o3 o4;simp only[isTuple]at o5 o6;have h2:((0:Int) !=0)=false:=rfl;have hzn:1 <=zn:=hx.1;have q0:zm.get 0=some (.var [.int .i64 b.miss,.int .i64 b.ghost,sa]):=(hx.2 0 (by show 0<1;decide)).trans (by rw[hm3];exact J10);obtain⟨hbk,_⟩:=hb1;have hN5:b.moulds.length <=5/\1 <=b.moulds.length:=by
    have h1:=hbk;unfold bookB at h1;simp only[Bool.and_eq_true,inB,decide_eq_true_eq]at h1;omega
   have hx4:HExt ⟨zn,zm⟩ ⟨zn+1,(zm.set zn (.var [.int .i64 0,.int .i64 0,.nilslice,.nilslice,.nilslice])).set zn (.var [.int .i64 b.miss,.int .i64 b.ghost,sa,dv,bv])⟩:=⟨Nat.le_succ _,fun id hid=>by
    have hid':id<zn:=hid;exact J10⟩
   have k111:=C111 (c:=c) cx2 hc111 hc93 b sa dv bv hbk hm _ _ (hO.keep hx4);unfold ClR at k111;obtain⟨r,k111,mid,⟨wn,wm⟩,rfl,hmp,hxw,hi1,hi2⟩:=k111;have hzw:zn+1 <=wn:=hxw.1;have hi1:zn+1 <=mid:=hi1;have hi2:mid<wn:=hi2;obtain⟨m8,hm8⟩:∃m8:Mp Blk,m8=((((wm.set wn (.var [.nilmap])).set wn (.var [.map mid])).set (wn+1) (.var [.nilslice])).set (wn+1+1) (.var [.nilfunc])).set (wn+1+1) (.var [.func (.func 112) [] [.ptr zn 0,.ptr wn 0,.ptr (wn+1) 0,.ptr 0 0,.ptr (wn+1+1) 0]]):=⟨_,rfl⟩;have hlow:∀id,id<wn->m8.get id=wm.get id:=fun id hid=>by
    rw[hm8];exact J10
   have w0:wm.get 0=_:=(hxw.2 0 (by simp only;omega)).trans ((hx4.2 0 (by simp only;omega)).trans q0);have w4:wm.get zn=some (.var [.int .i64 b.miss,.int .i64 b.ghost,sa,dv,bv]):=(hxw.2 zn (by simp only;omega)).trans (by exact J10);have hE:EnvW b sa dv bv 0 zn wn (wn+1) (wn+1+1) mid ⟨wn+1+1+1,m8⟩:=by
    refine⟨(hlow 0 (by omega)).trans w0,(hlow zn (by omega)).trans w4,?_,(hlow mid hi2).trans hmp,?_,?_,?_⟩
    ·rw[hm8];exact J10
    ·rw[hm8];exact J10
    ·simp only;omega
    ·omega
   have h7:m8.get (wn+1)=some (.var [.nilslice]):=by rw[hm8];exact J10
   have hnl:=nodeW_len (okW b) b.moulds.length b.moulds.length [];have hpw:2 ^ b.moulds.length <=2 ^ 5:=Nat.pow_le_pow_right (by omega) hN5.1;have e32:(2:Nat) ^ 5=32:=rfl;have k112:=C112 (c:=c) cx3 b sa dv bv hbk hm o1 o2 0 zn wn (wn+1) (wn+1+1) mid b.moulds.length rfl (by omega) (okW b) (okW_is b) b.moulds.length (Nat.le_refl _) .nilslice [] [] .nilslice ⟨wn+1+1+1,m8⟩ (by simp) (by simp) (.inl ⟨rfl,natsE_nil⟩) hE h7 (CanV.nil _) (by simp only[List.length_nil];omega);rw[List.nil_append,Nat.sub_self,show ((0:Nat):Int)=0 from rfl]at k112;unfold ClR at k112;obtain⟨r,k112,⟨yn,ym⟩,cv,rfl,hKY,hy7,hCY⟩:=k112;have hy7:ym.get (wn+1)=some (.var [cv]):=hy7;have hoc:=hCY.out;have hful:=node_full (ok:=okW b) (N:=b.moulds.length) b.moulds.length [] (by rw[List.nil_append];exact okW_full hbk b hm);have k115:=C115 (c:=c) hc115 hc116 h117 cv (nodeW (okW b) b.moulds.length b.moulds.length []) (by intro e;rw[e]at hful;cases hful) (by omega) (fun g hg=>by have:=nodeW_sub _ _ _ _ g hg;simp only[List.length_nil]at this;unfold maxL;omega) ⟨yn,ym⟩ hCY;unfold ClR at k115;obtain⟨r,k115,u,rfl,hBU⟩:=k115;have hbo:=hBU.out;have hft:=isQ_ret (frz_t2 (b:=.int .i64 0) (hBU.frz natsE_sz natsE_flat) (.flat rfl));have HFT:=J1 hft;rw[hm8]at k112;clear hb hm h110 hS hO hx hbk hx4 hmp hxw hzw hi1 hi2 hm8 hlow hE h7 hnl hpw e32 hKY hCY hful hBU hft hN5;refine ClR.walk (c:=_) hc Tryz.func50 rfl (by kernel_rfl) rfl isQ_fail ?_
   try simp only[entryEnv,Nat.reduceAdd,List.nil_append,List.cons_append,emptyHp]
   repeat' (first|refine goS ?_|refine uJ hca ?_|refine uJ k111 ?_|refine uJ k112 ?_|refine uJ k115 ?_|(refine go2 ?_ ?_<;>intro hh)|fail)
   all_goals (simp only[rV Tryz.func50,Tryz.results50];first|exact J5|refine J6 ?_)
   exact HFT.out
end
end Go.AM
namespace Go.Mo7
def lexB:List Nat->List Nat->Bool
 |a::p,b::q=>if a=b then lexB p q else decide (a<b)
 | [],_::_=>true
 |_,_=>false
def betW(a b:List Nat):Bool:=decide (a.length<b.length)||(decide (a.length=b.length)&&lexB a b)
def bestW(o:List Nat)(l:List (List Nat)):List Nat:=l.foldl (fun o x=>if betW x o=true then x else o) o
def preT(N:Nat):Nat->List (List Nat)
 |0=>[]
 |d+1=>([]::preT N d).map ((N - d - 1)::·)++preT N d
def preP(N d:Nat):List (List Nat):=[]::preT N d
end Go.Mo7
