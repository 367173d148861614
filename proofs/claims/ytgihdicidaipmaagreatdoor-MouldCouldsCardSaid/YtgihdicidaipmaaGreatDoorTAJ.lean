/-
    A part of the proof: contracts of functions.
-/
import Derived.Test.YtgihdicidaipmaaGreatDoorTAI
set_option linter.unusedSectionVars false
set_option linter.unusedVariables false
set_option linter.unusedSimpArgs false
set_option maxRecDepth 100000
set_option maxHeartbeats 16000000
namespace Go.AM
open Go Go.Proofs
variable[Keep]
attribute [local irreducible] W WO WO1 WD WQ WT thenQ blockQ endR isRet retK Cl ClR
section
attribute [local irreducible] roundQ RdR
def patC(p:Nat->Bool):List AV:=(List.range 256).map fun n=>.bool (p n)
theorem pat_at(p:Nat->Bool){k:Nat}(h:k<256):(patC p)[k]? =some (.bool (p k)):=by simp[patC,h]
theorem pat_len(p:Nat->Bool):(patC p).length=256:=by simp[patC]
theorem pat_idx(H:Heap)(pid:Nat){k:Nat}(h:k<256):indexAddrV Tryz.prog H 193 (.ptr pid 0) (.int .i64 (k:Int))=some (.ptr pid k):=by
 have:idxV (.int .i64 (k:Int)) 256=some k:=by simp[idxV];omega
 simp only[indexAddrV,Tryz.underlying193,ty_lay4,this,ptrAdd];simp
def memP(p:Nat->Bool)(k:Nat):List Nat:=(List.range k).filter p
theorem memP_yes{p:Nat->Bool}{k:Nat}(h:p k=true):memP p (k+1)=memP p k++[k]:=by
 unfold memP;rw[List.range_succ,List.filter_append];simp[h]
theorem memP_no{p:Nat->Bool}{k:Nat}(h:p k=false):memP p (k+1)=memP p k:=by
 unfold memP;rw[List.range_succ,List.filter_append];simp[h]
theorem memP_pre{p:Nat->Bool}:∀{j k:Nat},j <=k->memP p j <+:memP p k:=by
 intro j k h;induction k with
 |zero=>obtain rfl:j=0:=(by omega);exact List.prefix_refl _
 | succ k ih =>
  by_cases e:j=k+1
  ·subst e;exact List.prefix_refl _
  ·refine(ih (by omega)).trans ?_
   cases hp:p k with
   |true=>rw[memP_yes hp];exact List.prefix_append _ _
   |false=>rw[memP_no hp];exact List.prefix_refl _
attribute [local irreducible] patC memP
section
variable{c:Itr}
theorem C137{σ:Type}(I D:σ->Heap->Prop)(step:Nat->σ->σ×Bool)(hc:c 137=none)(p:Nat->Bool)(pid L:Nat)
  (hI:∀s h,I s h->h.get pid=some (.var (patC p)))
  (hrd:∀n s h,n<256->p n=true->I s h->RdR (dX c) L [.int .i64 (n:Int)] h (stI I D .bool (step n s))) (s:σ) (h:Heap) (hs:I s h) :
  ClR (dX c) 137 (([.ptr pid 0]++[.yield L])++[]) h (stI I D (fun _=>.tuple []) (foldS step (memP p 256) s)):=by
 have HI:=J1 hI;have HRD:=J1 hrd;have HS:=J1 hs;clear hI hrd hs;have hf0:foldS step (memP p 0) s=(s,true):=by unfold memP;rfl
 have HF0:=J1 hf0;clear hf0;refine ClR.walk (c:=_) hc Tryz.func137 rfl (by kernel_rfl) rfl stI_fail ?_;simp only[entryEnv,Nat.reduceAdd,List.nil_append,List.cons_append,List.append_nil];repeat' (first|refine goS ?_|(refine go2 ?_ ?_<;>intro hh)|fail)
 refine W.loopV (256) [0,1] [] (fun k e lm hp=>∃s1,e.get 5=some (.int .i64 ↑k)/\I s1 hp/\foldS step (memP p k) s=(s1,true)) ?_ ?_
 ·skip
  refine⟨s,?_,HS.out,HF0.out⟩;simp[go_sem, *]
 intro k e lm hp hk0 hce hcl hinv;simp only[keepE,and_true]at hce;obtain⟨c0,c1⟩:=hce;simp only[go_sem, *,Nat.reduceBEq,Nat.reduceEqDiff,reduceIte]at c0 c1;clear hcl;obtain⟨s1,h5,hi1,hfo⟩:=hinv;by_cases hlt:k<256
 ·have hd0:=dT hlt
  have hv_0:=wrap_succ hlt (by unfold maxL;omega);have hg:=HI.out s1 hp hi1;have hix:=fun H=>pat_idx H pid hlt;have hat:=pat_at p hlt;have hd00:decide ((k:Int)<256)=true:=by simp only[decide_eq_true_eq];omega
  cases hpk:p k with
  |false=>
   rw[hpk]at hat;have hfo2:=memP_no hpk;rw[<-hfo2]at hfo;have HI1:=J1 hi1;have HFO:=J1 hfo;clear hi1 hfo hfo2;repeat' (first|refine gJ ?_|refine go1 ?_|(refine go2 ?_ ?_<;>intro hh)|fail)
   all_goals refine contV_mk J9 J7 J8 ?_
   all_goals refine⟨s1,?_,HI1.out,HFO.out⟩
   all_goals first|exact Z2|skip
  | true =>
   rw[hpk]at hat;have h2:=HRD.out k s1 hp hlt hpk hi1;unfold RdR at h2;obtain⟨r,hyl,h3,rfl,i1,i2⟩:=h2;obtain⟨s3,b,hsb⟩:∃s3 b,step k s1=(s3,b):=⟨_,_,rfl⟩;rw[hsb]at hyl i1 i2;have hfn:foldS step (memP p (k+1)) s=(s3,b):=by rw[memP_yes hpk,foldS_one hfo,hsb]
   have HPRE:=J1 (memP_pre (p:=p) (j:=k+1) (k:=256) (by omega));have HFN:=J1 hfn;clear hi1 hfo hsb hfn;cases b with
   |false=>
    have hfin:=foldS_pre HPRE.out HFN.out;rw[hfin];have HD:=J1 (i2 rfl);clear i1 i2 hfin;repeat' (first|refine gJ ?_|(apply WO1.round;exact Z1;exact Z1;(focus (exact hyl));simp only[pM,pN,rR,rP])|refine go1 ?_|(refine go2 ?_ ?_<;>intro hh)|fail)
    all_goals (simp only[rV Tryz.func137,Tryz.results137];first|exact J5|refine J6 ?_)
    exact⟨_,rfl,(fun e=>by cases e),fun _=>HD.out⟩
   |true=>
    have HI2:=J1 (i1 rfl);clear i1 i2;repeat' (first|refine gJ ?_|(apply WO1.round;exact Z1;exact Z1;(focus (exact hyl));simp only[pM,pN,rR,rP])|refine go1 ?_|(refine go2 ?_ ?_<;>intro hh)|fail)
    all_goals refine contV_mk J9 J7 J8 ?_
    all_goals refine⟨s3,?_,HI2.out,HFN.out⟩
    all_goals first|exact Z2|skip
 ·have hd0:=dF hlt
  obtain rfl:k=256:=by omega
  have hd00:decide (((256:Nat):Int)<256)=false:=by decide
  rw[hfo];have HI2:=J1 hi1;clear hi1 hfo;repeat' (first|refine goS ?_|(refine go2 ?_ ?_<;>intro hh)|fail)
  simp only[eN];all_goals (simp only[rV Tryz.func137,Tryz.results137];first|exact J5|refine J6 ?_)
  exact⟨_,rfl,(fun _=>HI2.out),fun e=>by cases e⟩
end
end
section
attribute [local irreducible] roundQ RdR
structure MM where
 p:Int
 clo:Int
 chi:Int
 ma:AV
 la:AV
 ps:ma.pur=true/\la.pur=true
def mmC:Cd MM where
 enc m:=.agg [.int .i64 m.p,.int .i64 m.clo,.int .i64 m.chi,m.ma,m.la]
 dec a:=match a with
  | .agg [.int .i64 p,.int .i64 clo,.int .i64 chi,ma,la]=>if h:ma.pur=true/\la.pur=true then some ⟨p,clo,chi,ma,la,h⟩else none
  |_=>none
 de m:=by simp[m.ps]
 ed a x h:=by
  split at h
  ·split at h
   ·cases h;rfl
   ·cases h
  ·cases h
 pur m:=by simp[AV.pur,AV.purL,m.ps.1,m.ps.2]
def MM.ok(m:MM):Bool:=(slV mkC m.ma).isSome&&(slV lnC m.la).isSome
def MM.md(m:MM):Md:=⟨m.p,m.clo,m.chi,(slV mkC m.ma).getD [],(slV lnC m.la).getD []⟩
theorem MM.ok_is{m:MM}(h:m.ok=true):slV mkC m.ma=some m.md.marks/\slV lnC m.la=some m.md.loans:=by
 unfold MM.ok at h;simp only[Bool.and_eq_true,Option.isSome_iff_exists]at h;obtain⟨⟨a,ha⟩,⟨b,hb⟩⟩:=h;simp[MM.md,ha,hb]
structure MdsV(sa:AV)(l:List Md):Prop where
 len:lenS sa=some l.length
 out:outV (some sa)=some sa
 max:l.length <=maxL
 pur:sa.pur=true
 cells:sa.cells=[sa]
 tup:isTuple sa=false
 elem:∀(k:Nat) (m:Md),l[k]? =some m->∃ma la,slV mkC ma=some m.marks/\slV lnC la=some m.loans/\∀H,indexAddrV Tryz.prog H 22 sa (.int .i64 (k:Int))=some (.vptr [.int .i64 m.parent,.int .i64 m.clo,.int .i64 m.chi,ma,la])
theorem mds_of{sa:AV}{l:List MM}(h:slV mmC sa=some l)(ok:l.all MM.ok=true):MdsV sa (l.map MM.md):=by
 have hs:=(slV_is h).1;refine⟨by simpa using sl_len h,sl_out h,by simpa using sl_max h,sl_pur h,hs.cells,hs.tup,fun k m hm=>?_⟩;rw[List.getElem?_map,Option.map_eq_some_iff]at hm;obtain⟨x,hx,rfl⟩:=hm;have:=MM.ok_is (List.all_eq_true.1 ok x (List.mem_of_getElem? hx));refine⟨x.ma,x.la,this.1,this.2,fun H=>?_⟩;have e1:=((slV_is this.1).1).cells;have e2:=((slV_is this.2).1).cells;have hi:=hs.idx (P:=Tryz.prog) (hp:=H) (t:=22) (k:=k) (x:=mmC.enc x) Tryz.underlying22 ty_lay76 (by simp[hx]) rfl;exact hi
def bkV:AV->Option Bk
 | .agg [.int .i64 m,.int .i64 g,sa]=>match slV mmC sa with
  |some l=>if l.all MM.ok=true then some ⟨m,g,l.map MM.md⟩else none
  |none=>none
 |_=>none
theorem bk_is{a:AV}{b:Bk}(h:bkV a=some b):∃sa,a= .agg [.int .i64 b.miss,.int .i64 b.ghost,sa]/\MdsV sa b.moulds:=by
 unfold bkV at h;split at h
 ·split at h
  ·split at h
   ·rename_i hs hok
    cases h;exact⟨_,rfl,mds_of hs hok⟩
   ·cases h
  ·cases h
 ·cases h
def upM(l:List Md)(m:Int):Int:=match l[m.toNat]? with|some d=>d.parent|none=>-1
def curM(l:List Md)(m:Int):Nat->Int
 |0=>m
 |k+1=>upM l (curM l m k)
def chainN(l:List Md):Nat->Int->List Nat
 |0,_=>[]
 |f+1,m=>if m<0 then []else m.toNat::chainN l f (upM l m)
def chn(l:List Md)(m:Int):List Nat:=chainN l (m.toNat+1) m
def WfP(l:List Md)(n:Nat):Prop:=∀j d,j<n->l[j]? =some d->-1 <=d.parent/\d.parent<(j:Int)
theorem curM_succ(l:List Md)(m:Int)(k:Nat):curM l m (k+1)=upM l (curM l m k):=rfl
theorem curM_up(l:List Md)(m:Int):∀k,curM l m (k+1)=curM l (upM l m) k
 |0=>rfl
 |k+1=>by
  show upM l (curM l m (k+1))=upM l (curM l (upM l m) k);rw[curM_up l m k]
theorem up_lt{l:List Md}{n:Nat}(wf:WfP l n){m:Int}(h0:0 <=m)(hn:m<n)(hl:n <=l.length):-1 <=upM l m/\upM l m<m:=by
 unfold upM;have hlt:m.toNat<l.length:=by omega
 rw[List.getElem?_eq_getElem hlt];have:=wf m.toNat _ (by omega) (List.getElem?_eq_getElem hlt);exact⟨this.1,by have:=this.2;simp only;omega⟩
theorem chain_at{l:List Md}{n:Nat}(wf:WfP l n)(hl:n <=l.length):∀(f:Nat) (m:Int),-1 <=m->m<f->m<n->
  (∀k,k<(chainN l f m).length->(chainN l f m)[k]? =some (curM l m k).toNat/\0 <=curM l m k/\curM l m k <=m /\ -1 <=curM l m k)/\curM l m (chainN l f m).length<0/\(chainN l f m).length <=m+1:=by
 intro f;induction f with
 |zero=>
  intro m h1 h2 h3;have hm:m<0:=by omega
  exact⟨fun k hk=>absurd hk (Nat.not_lt_zero _),hm,by simp only[chainN,List.length_nil];omega⟩
 | succ f ih =>
  intro m h1 h2 h3;unfold chainN;by_cases hm:m<0
  ·rw[if_pos hm]
   exact⟨fun k hk=>absurd hk (Nat.not_lt_zero _),hm,by simp only[List.length_nil];omega⟩
  ·rw[if_neg hm]
   have hu:=up_lt wf (by omega) h3 hl;have:=ih (upM l m) hu.1 (by omega) (by omega);refine⟨fun k hk=>?_,?_,?_⟩
   ·cases k with
    |zero=>exact⟨rfl,by simp only[curM];omega,by simp only[curM];omega,by simp only[curM];omega⟩
    |succ k=>
     have h:=this.1 k (by simpa using hk);rw[curM_up];exact⟨by simpa using h.1,h.2.1,by have:=h.2.2.1;omega,h.2.2.2⟩
   ·rw[List.length_cons,curM_up]
    exact this.2.1
   ·have:=this.2.2
    simp only[List.length_cons];omega
theorem chn_at{l:List Md}{n:Nat}(wf:WfP l n)(hl:n <=l.length){m:Int}(h1:-1 <=m)(h3:m<n) :
  (∀k,k<(chn l m).length->(chn l m)[k]? =some (curM l m k).toNat/\0 <=curM l m k/\curM l m k <=m /\ -1 <=curM l m k)/\curM l m (chn l m).length<0/\(chn l m).length <=m+1:=
 chain_at wf hl (m.toNat+1) m h1 (by omega) h3
def marksA(l:List Md)(j:Nat):List Mk:=match l[j]? with|some d=>d.marks|none=>[]
def lineP(l:List Md)(m:Int)(k:Nat):List (Nat×Mk):=((chn l m).take k).flatMap fun j=>(marksA l j).map fun x=>(j,x)
def lineM(l:List Md)(m:Int):List (Nat×Mk):=(chn l m).flatMap fun j=>(marksA l j).map fun x=>(j,x)
theorem lineP_next{l:List Md}{m:Int}{k j:Nat}(h:(chn l m)[k]? =some j):lineP l m (k+1)=lineP l m k++(marksA l j).map fun x=>(j,x):=by
 unfold lineP;rw[take_next h,List.flatMap_append];simp
theorem lineP_all(l:List Md)(m:Int):lineP l m (chn l m).length=lineM l m:=by
 unfold lineP lineM;rw[List.take_length]
theorem lineP_pre(l:List Md)(m:Int)(k:Nat):lineP l m k <+:lineM l m:=by
 unfold lineP lineM
 conv=>rhs;rw[<-List.take_append_drop k (chn l m),List.flatMap_append]
 exact List.prefix_append _ _
def lineQ(l:List Md)(m:Int)(k j:Nat)(ms:List Mk)(i:Nat):List (Nat×Mk):=lineP l m k++(ms.take i).map fun x=>(j,x)
theorem lineQ_next{l:List Md}{m:Int}{k j i:Nat}{ms:List Mk}{x:Mk}(h:ms[i]? =some x):lineQ l m k j ms (i+1)=lineQ l m k j ms i++[(j,x)]:=by
 unfold lineQ;rw[take_next h,List.map_append,List.append_assoc];rfl
theorem lineQ_pre{l:List Md}{m:Int}{k j i:Nat}(h:(chn l m)[k]? =some j):lineQ l m k j (marksA l j) i <+:lineM l m:=by
 refine List.IsPrefix.trans ?_ (lineP_pre l m (k+1));rw[lineP_next h];unfold lineQ;rw[List.prefix_append_right_inj];exact(List.take_prefix i _).map _
attribute [local irreducible] lineP lineM lineQ chn curM marksA
section
variable{c:Itr}
theorem C178{σ:Type}(I D:σ->Heap->Prop)(step:Nat×Mk->σ->σ×Bool)(hc:c 178=none)(mi gh:Int)(sa:AV)(l:List Md)(hm:MdsV sa l)(n:Nat)(wf:WfP l n)(hl:n <=l.length)(m:Int)(h1:-1 <=m)(h3:m<n)(mid bid L:Nat)
  (hI:∀s h,I s h->h.get mid=some (.var [.int .i64 m])/\h.get bid=some (.var [.int .i64 mi,.int .i64 gh,sa]))
  (hrd:∀jx s h,jx∈lineM l m->I s h->RdR (dX c) L [.int .i64 (jx.1:Int),.agg [.int .i64 jx.2.spot,.int .i64 jx.2.lo,.int .i64 jx.2.hi]] h (stI I D .bool (step jx s))) (s:σ) (h:Heap) (hs:I s h) :
  ClR (dX c) 178 (([]++[.yield L])++[.ptr mid 0,.ptr bid 0]) h (stI I D (fun _=>.tuple []) (foldS step (lineM l m) s)):=by
 have hch:=chn_at wf hl h1 h3;have hmax:=hm.max;have os:=hm.out;have hlen:=hm.len;obtain⟨hg1,hg2⟩:=hI s h hs;have HI:=J1 hI;have HRD:=J1 hrd;have HM:=J1 hm;have hf0:foldS step (lineP l m 0) s=(s,true):=by unfold lineP;rfl
 have HF0:=J1 hf0;have hc0:curM l m 0=m:=by unfold curM;rfl
 have HC0:=J1 hc0;have HS:=J1 hs;have HCH:=J1 hch;have HB:=J1 (show (chn l m).length <=maxL by have:=hch.2.2;omega);clear hI hrd hm hf0 hc0 hs hch;refine ClR.walk (c:=_) hc Tryz.func178 rfl (by kernel_rfl) rfl stI_fail ?_;simp only[entryEnv,Nat.reduceAdd,List.nil_append,List.cons_append];repeat' (first|refine goS ?_|(refine go2 ?_ ?_<;>intro hh)|fail)
 refine W.loopV ((chn l m).length) [0,2] [] (fun k e lm hp=>∃s1,e.get 4=some (.int .i64 (curM l m k))/\I s1 hp/\foldS step (lineP l m k) s=(s1,true)) ?_ ?_
 ·skip
  refine⟨s,?_,HS.out,HF0.out⟩;simp[go_sem, *,HC0.out]
 intro k e lm hp hk0 hce hcl hinv;simp only[keepE,and_true]at hce;obtain⟨c0,c2⟩:=hce;simp only[go_sem, *,Nat.reduceBEq,Nat.reduceEqDiff,reduceIte]at c0 c2;clear hcl;obtain⟨s1,h4,hi1,hfo⟩:=hinv;by_cases hlt:k<(chn l m).length
 ·have hd0:=dT hlt
  have hv_0:=wrap_succ hlt HB.out;obtain⟨q1,q2,q3,q4⟩:=HCH.out.1 k hlt;obtain⟨d,hdd⟩:=get_some (l:=l) (k:=(curM l m k).toNat) (by omega);obtain⟨ma,la,v1,v2,hix⟩:=HM.out.elem _ _ hdd;have hcn:((curM l m k).toNat:Int)=curM l m k:=by omega
  rw[hcn]at hix;have hge:decide (curM l m k >=0)=true:=by simpa using q2
  obtain⟨hg1,hg2⟩:=HI.out s1 hp hi1;have om:=sl_out v1;have lm0:=sl_len v1;have mm:=sl_max v1;have hmk:marksA l (curM l m k).toNat=d.marks:=by unfold marksA;rw[hdd]
  have hup:curM l m (k+1)=d.parent:=by
   rw[curM_succ];unfold upM;rw[hdd]
  have hpre:∀i,lineQ l m k (curM l m k).toNat d.marks i <+:lineM l m:=fun i=>by rw[<-hmk];exact lineQ_pre q1
  have hln:lineP l m (k+1)=lineQ l m k (curM l m k).toNat d.marks d.marks.length:=by
   rw[lineP_next q1,hmk];unfold lineQ;rw[List.take_length]
  have hl0:lineQ l m k (curM l m k).toNat d.marks 0=lineP l m k:=by unfold lineQ;simp
  rw[<-hl0]at hfo;have HI1:=J1 hi1;have HFO:=J1 hfo;have HV1:=J1 v1;have HUP:=J1 hup;have HLN:=J1 hln;have HPRE:=J1 hpre;have HLT0:=J1 hlt;have hcn':=hcn;have HCN:=J1 hcn;clear hi1 hfo v1 v2 hdd q1 q2 q3 q4 hmk hup hpre hln hl0 hlt hcn hcn';generalize hcu:curM l m k=cu at *;have HCU:=J1 hcu;clear hcu;repeat' (first|refine goS ?_|(refine go2 ?_ ?_<;>intro hh)|fail)
  refine W.loopV (d.marks.length) [0,2,4,21,22] [] (fun j e1 lm1 hp1=>∃s2,e1.get 23=some (.int .i64 ↑j)/\I s2 hp1/\foldS step (lineQ l m k cu.toNat d.marks j) s=(s2,true)) ?_ ?_
  ·skip
   refine⟨s1,?_,HI1.out,HFO.out⟩;simp[go_sem, *]
  intro j e1 lm1 hp1 hk1 hce hcl hinv;simp only[keepE,and_true]at hce;obtain⟨c0,c2,c4,c21,c22⟩:=hce;simp only[go_sem, *,Nat.reduceBEq,Nat.reduceEqDiff,reduceIte]at c0 c2 c4 c21 c22;clear hcl;obtain⟨s2,h23,hi2,hfo2⟩:=hinv;by_cases hjt:j<d.marks.length
  ·have hd1:=dT hjt
   have hv_1:=wrap_succ hjt mm;obtain⟨x,hx⟩:=get_some hjt;have hix2:=fun H=>mks_idx HV1.out hx H;have hq:=lineQ_next (l:=l) (m:=m) (k:=k) (j:=cu.toNat) hx;have hmem:(cu.toNat,x)∈lineM l m:=(HPRE.out (j+1)).subset (by rw[hq];simp);have h2:=HRD.out (cu.toNat,x) s2 hp1 hmem hi2;simp only[HCN.out]at h2;obtain⟨hg1,hg2⟩:=HI.out s2 hp1 hi2;unfold RdR at h2;obtain⟨r,hyl,h3,rfl,i1,i2⟩:=h2;obtain⟨s3,b,hsb⟩:∃s3 b,step (cu.toNat,x) s2=(s3,b):=⟨_,_,rfl⟩;rw[hsb]at hyl i1 i2;have hfn:foldS step (lineQ l m k cu.toNat d.marks (j+1)) s=(s3,b):=by rw[hq,foldS_one hfo2,hsb]
   have HFN:=J1 hfn;have HLT1:=J1 hjt;clear hi2 hfo2 hsb hfn hq hmem hx hjt;cases b with
   |false=>
    have hfin:=foldS_pre (HPRE.out (j+1)) HFN.out;rw[hfin];have HD:=J1 (i2 rfl);clear i1 i2 hfin;repeat' (first|(apply WO1.round;exact Z1;exact Z1;(focus (exact hyl));simp only[pM,pN,rR,rP])|refine go1 ?_|(refine go2 ?_ ?_<;>intro hh)|fail)
    all_goals (simp only[rV Tryz.func178,Tryz.results178];first|exact J5|refine J6 ?_)
    exact⟨_,rfl,(fun e=>by cases e),fun _=>HD.out⟩
   |true=>
    have HI2:=J1 (i1 rfl);clear i1 i2;repeat' (first|(apply WO1.round;exact Z1;exact Z1;(focus (exact hyl));simp only[pM,pN,rR,rP])|refine go1 ?_|(refine go2 ?_ ?_<;>intro hh)|fail)
    all_goals refine contV_mk (by first|assumption|exact HLT1.out|exact HLT0.out) J7 J8 ?_
    all_goals refine⟨s3,?_,HI2.out,HFN.out⟩
    all_goals first|exact Z2|skip
  ·have hd1:=dF hjt
   obtain rfl:j=d.marks.length:=by omega
   have hfo3:=hfo2;rw[<-HLN.out]at hfo3;obtain⟨hg1,hg2⟩:=HI.out s2 hp1 hi2;have HI2:=J1 hi2;have HFO2:=J1 hfo3;clear hi2 hfo2 hfo3;have HUPS:=HUP;repeat' (first|refine goS ?_|(refine go2 ?_ ?_<;>intro hh)|fail)
   all_goals refine contV_mk J9 J7 J8 ?_
   all_goals refine⟨s2,?_,HI2.out,HFO2.out⟩
   all_goals first|exact Z2|skip
   rw[HUP.out];simp only[go_sem, *,Nat.reduceLT,Int.reduceEq,Int.reduceBEq,Int.reduceLE,Int.reduceLT,Nat.reduceAdd,Nat.reduceBEq,Nat.reduceEqDiff,reduceIte,Nat.reduceLeDiff,Nat.reduceMul,Nat.reduceSub,reduceCtorEq]
 ·have hd0:=dF hlt
  obtain rfl:k=(chn l m).length:=by omega
  have hge:decide (curM l m (chn l m).length >=0)=false:=by have:=HCH.out.2.1;simp;omega
  rw[lineP_all]at hfo;rw[hfo];have HI1:=J1 hi1;clear hi1 hfo;repeat' (first|refine goS ?_|(refine go2 ?_ ?_<;>intro hh)|fail)
  simp only[eN];all_goals (simp only[rV Tryz.func178,Tryz.results178];first|exact J5|refine J6 ?_)
  exact⟨_,rfl,(fun _=>HI1.out),fun e=>by cases e⟩
end
end
section
attribute [local irreducible] roundQ RdR
open Go.Mo7 (minN)
section
variable{c:Itr}
theorem C149(hc:c 149=none)(mi gh m:Int)(sa:AV)(os:outV (some sa)=some sa)(hn:Nat)(hm:Mp Blk) :
  Cl (dX c) 149 [.agg [.int .i64 mi,.int .i64 gh,sa],.int .i64 m] ⟨hn,hm⟩ (.ret (.func (.func 178) [] [.ptr (hn+1) 0,.ptr hn 0]) ⟨hn+2,(hm.set hn (.var [.int .i64 mi,.int .i64 gh,sa])).set (hn+1) (.var [.int .i64 m])⟩ none):=by
 refine ClR.cl ?_;refine ClR.walk (c:=_) hc Tryz.func149 rfl (by kernel_rfl) rfl (fun e=>by cases e) ?_
 try simp only[entryEnv,Nat.reduceAdd,List.nil_append,List.cons_append,emptyHp]
 repeat' (first|refine goS ?_|(refine go2 ?_ ?_<;>intro hh)|fail)
 all_goals (simp only[rV Tryz.func149,Tryz.results149];first|exact J5|refine J6 ?_)
 all_goals rfl
def metS(jx:Nat×Mk)(s:Nat):Nat×Bool:=if s &&& 2 ^ jx.2.spot.toNat=0 then (s ||| 2 ^ jx.2.spot.toNat,true)else (s,false)
def lineOk(l:List Md)(m:Int):Bool:=(foldS metS (lineM l m) 0).2
def mdOk(d:Md)(n:Int):Bool:=mdB d.parent d.clo d.chi d.marks d.loans n
def bookP(l:List Md)(k:Nat):Bool:=(List.range k).all fun i=>(match l[i]? with|some d=>mdOk d i|none=>false)&&lineOk l i
def bookB(b:Bk):Bool:=inB b.miss 0 2&&inB b.ghost 0 2&&inB b.moulds.length 1 5&&bookP b.moulds b.moulds.length
theorem bookP_next{l:List Md}{k:Nat}{d:Md}(h:l[k]? =some d):bookP l (k+1)=(bookP l k&&(mdOk d k&&lineOk l k)):=by
 unfold bookP;rw[List.range_succ,List.all_append];simp[h]
theorem bookP_at{l:List Md}{k j:Nat}{d:Md}(h:bookP l k=true)(hj:j<k)(hd:l[j]? =some d):mdOk d j=true/\lineOk l j=true:=by
 unfold bookP at h;have:=List.all_eq_true.1 h j (List.mem_range.2 hj);rw[hd]at this;simpa using this
theorem bookP_no{l:List Md}{k n:Nat}(h:bookP l k=false)(hk:k <=n):bookP l n=false:=by
 unfold bookP at *;rw[List.all_eq_false]at *;obtain⟨x,hx,hq⟩:=h;exact⟨x,List.mem_range.2 (by have:=List.mem_range.1 hx;omega),hq⟩
theorem mdOk_parts{d:Md}{n:Nat}(hn:n <=maxL)(h:mdOk d n=true):-1 <=d.parent/\d.parent<(n:Int)/\(0 <=d.clo/\d.clo <=d.chi/\d.chi <=36)/\d.chi - d.clo <=5/\(d.parent<0->d.clo=0/\d.chi=0)/\d.marks.length <=4/\(1 <=d.loans.length/\d.loans.length <=3)/\(∀x∈d.marks,badM x=false)/\∀x∈d.loans,badL x=false:=by
 unfold mdOk mdB at h;have hw:IntKind.i64.wrap ((n:Int) - 1)=(n:Int) - 1:=wrap_small (by omega) (by unfold maxL at hn;omega);simp only[Bool.and_eq_true,hw,inB,spB,decide_eq_true_eq,Bool.not_eq_true',decide_eq_false_iff_not]at h;obtain⟨⟨⟨⟨⟨⟨⟨⟨a1,a2⟩,⟨a3,a4⟩,a5⟩,a6⟩,a7⟩,a8⟩,a9,a10⟩,a11⟩,a12⟩:=h;rw[wrap_small (by omega) (by omega)]at a6;refine⟨by omega,by omega,⟨by omega,a4,a5⟩,by omega,fun hp=>?_,by omega,⟨by omega,by omega⟩,fun x hx=>?_,fun x hx=>?_⟩
 ·have:decide (d.parent<0)=true:=by simpa using hp
  rw[this]at a7;simpa using a7
 ·rw[List.any_eq_false]at a11
  simpa using a11 x hx
 ·rw[List.any_eq_false]at a12
  simpa using a12 x hx
theorem badM_no{x:Mk}(h:badM x=false):(0 <=x.spot/\x.spot <=7)/\1 <=x.lo/\x.lo <=x.hi/\x.hi <=36:=by
 simp only[badM,inB,spB,Bool.or_eq_false_iff,Bool.not_eq_false',Bool.and_eq_true,decide_eq_true_eq]at h;omega
theorem badL_no{x:Ln}(h:badL x=false):(0 <=x.house/\x.house <=5)/\(0 <=x.slo/\x.slo <=x.shi/\x.shi <=12)/\0 <=x.flo/\x.flo <=x.fhi/\x.fhi <=99:=by
 simp only[badL,inB,spB,Bool.or_eq_false_iff,Bool.not_eq_false',Bool.and_eq_true,decide_eq_true_eq]at h;omega
def MdsOk(l:List Md)(n:Nat):Prop:=∀(j:Nat) (d:Md),j<n->l[j]? =some d->mdOk d j=true
theorem MdsOk.wf{l:List Md}{n:Nat}(hn:n <=maxL)(h:MdsOk l n):WfP l n:=fun j d hj hd=>by
 have:=mdOk_parts (by omega) (h j d hj hd);exact⟨this.1,this.2.1⟩
theorem line_mem{l:List Md}{n:Nat}(wf:WfP l n)(hl:n <=l.length){m:Int}(h1:-1 <=m)(h3:m<n){jx:Nat×Mk}(h:jx∈lineM l m):jx.1<n/\∃d,l[jx.1]? =some d/\jx.2∈d.marks:=by
 unfold lineM at h;obtain⟨j,hj,hx⟩:=List.mem_flatMap.1 h;obtain⟨x,hy,rfl⟩:=List.mem_map.1 hx;obtain⟨k,hk⟩:=List.mem_iff_getElem?.1 hj;have hkl:k<(chn l m).length:=by
  rcases Nat.lt_or_ge k (chn l m).length with h' |h'
  ·exact h'
  ·rw[List.getElem?_eq_none h']at hk;cases hk
 have:=(chn_at wf hl h1 h3).1 k hkl;rw[hk]at this;have e:=Option.some.inj this.1;refine⟨by simp only;omega,?_⟩;unfold marksA at hy;simp only;split at hy
 ·rename_i d hd
  exact⟨d,hd,hy⟩
 ·cases hy
theorem line_spot{l:List Md}{n:Nat}(hn:n <=maxL)(hl:n <=l.length)(h:MdsOk l n){m:Int}(h1:-1 <=m)(h3:m<n){jx:Nat×Mk}(hj:jx∈lineM l m):0 <=jx.2.spot/\jx.2.spot <=7:=by
 obtain⟨a,d,hd,hx⟩:=line_mem (h.wf hn) hl h1 h3 hj;have:=mdOk_parts (by omega) (h _ d a hd);exact(badM_no (this.2.2.2.2.2.2.2.1 _ hx)).1
theorem pow_lt{r:Int}(h0:0 <=r)(h1:r <=7):2 ^ r.toNat<256:=by
 have:(2:Nat) ^ r.toNat <=2 ^ 7:=Nat.pow_le_pow_right (by omega) (by omega);have e:(2:Nat) ^ 7=128:=rfl;omega
theorem metS_go{jx:Nat×Mk}{s:Nat}(h:s &&& 2 ^ jx.2.spot.toNat=0):metS jx s=(s ||| 2 ^ jx.2.spot.toNat,true):=by unfold metS;rw[if_pos h]
theorem metS_no{jx:Nat×Mk}{s:Nat}(h:¬s &&& 2 ^ jx.2.spot.toNat=0):metS jx s=(s,false):=by unfold metS;rw[if_neg h]
attribute [local irreducible] lineM metS
end
end
end Go.AM
