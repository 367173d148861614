/-
    A part of the proof: contracts of functions.
-/
import Derived.Test.YtgihdicidaipmaaGreatDoorTAP
set_option linter.unusedSectionVars false
set_option linter.unusedVariables false
set_option linter.unusedSimpArgs false
set_option maxRecDepth 100000
set_option maxHeartbeats 16000000
namespace Go.AM
open Go Go.Proofs
variable[Keep]
attribute [local irreducible] W WO WO1 WD WQ WT thenQ blockQ endR isRet retK Cl ClR
section
attribute [local irreducible] roundQ RdR patC memP grownS setP cutF birF houN
def keyE(m w:Nat):AV:=.agg [.int .i64 (m:Int),.int .i64 (w:Int)]
theorem eqT170(a b x y:Nat):eqT Tryz.prog eqDepth 170 (keyE a b) (keyE x y)=some (a==x&&b==y):=by
 have hst:Tryz.prog.stoodInHeld 170=false:=by kernel_rfl
 have e3:∀x y:Int,eqT Tryz.prog 7 3 (.int .i64 x) (.int .i64 y)=some (x==y):=fun x y=>by rw[eqT.eq_def];simp only[Tryz.underlying3,if_true]
 have hc:∀p q:Nat,(((p:Nat):Int)==((q:Nat):Int))=(p==q):=fun p q=>by
  rw[Bool.eq_iff_iff,beq_iff_eq,beq_iff_eq];omega
 unfold eqDepth;rw[eqT.eq_def];simp only[Tryz.underlying170,keyE,hst,Bool.false_eq_true,if_false];generalize eqT Tryz.prog 7=f at *;simp only[eqFields,readT,readAt,ty_lay3,e3,hc];simp[eqFields,readT,readAt,ty_lay3,e3,hc];cases a==x<;>cases b==y<;>rfl
theorem key170(m w:Nat):keyOf Tryz.prog 170 (keyE m w)=true:=by
 unfold keyOf;rw[eqT170];simp[keyV,scalarV,keyE]
def entE(f:Nat->Nat->Nat)(l:List (Nat×Nat)):List (AV×AV):=l.map fun p=>(keyE p.1 p.2,.int .i64 (f p.1 p.2:Int))
theorem put170(f:Nat->Nat->Nat)(m w:Nat):∀l:List (Nat×Nat),(m,w)∉l->mapPut Tryz.prog 170 (keyE m w) (.int .i64 (f m w:Int)) (entE f l)=some (entE f (l++[(m,w)]))
 | [],_=>rfl
 | (x, y) :: l, h => by
  have hne:(m==x&&w==y)=false:=by
   cases hq:(m==x&&w==y)with
   |false=>rfl
   |true=>
    simp only[Bool.and_eq_true,beq_iff_eq]at hq;exact absurd (by rw[hq.1,hq.2];simp) h
  have ih:=put170 f m w l (fun e=>h (by simp[e]));show (match eqT Tryz.prog eqDepth 170 (keyE m w) (keyE x y)with|some true=>_|some false=>_|none=>_)=_
  rw[eqT170,hne];show (match mapPut Tryz.prog 170 (keyE m w) (.int .i64 (f m w:Int)) (entE f l)with|some l=>_|none=>_)=_
  rw[ih];rfl
theorem find170(f:Nat->Nat->Nat)(m w:Nat):∀l:List (Nat×Nat),findV Tryz.prog 170 (keyE m w) (entE f l)=some (if (m,w)∈l then some (.int .i64 (f m w:Int))else none)
 | []=>by simp[entE,findV]
 | (x, y) :: l => by
  have ih:=find170 f m w l;show (match eqT Tryz.prog eqDepth 170 (keyE m w) (keyE x y)with|some true=>_|some false=>_|none=>_)=_
  rw[eqT170];cases hq:(m==x&&w==y)with
  |true=>
   simp only[Bool.and_eq_true,beq_iff_eq]at hq;obtain⟨rfl,rfl⟩:=hq;simp
  | false =>
   have:(m,w)≠(x,y):=by
    intro e;cases e;simp at hq
   show findV Tryz.prog 170 (keyE m w) (entE f l)=_;rw[ih];simp[this]
def rowK(f:Nat->Nat->Nat)(m j:Nat):List (Nat×Nat):=((List.range j).filter fun w=>f m w !=0).map fun w=>(m,w)
def allK(f:Nat->Nat->Nat):Nat->List (Nat×Nat)
 |0=>[]
 |k+1=>allK f k++rowK f k 256
theorem allK_succ(f:Nat->Nat->Nat)(k:Nat):allK f (k+1)=allK f k++rowK f k 256:=rfl
theorem rowK_mem{f:Nat->Nat->Nat}{m j x y:Nat}:(x,y)∈rowK f m j↔x=m/\y<j/\f m y≠0:=by
 unfold rowK;simp only[List.mem_map,List.mem_filter,List.mem_range,bne_iff_ne,Prod.mk.injEq];constructor
 ·rintro⟨w,⟨h1,h2⟩,rfl,rfl⟩;exact⟨rfl,h1,h2⟩
 ·rintro⟨rfl,h1,h2⟩;exact⟨y,⟨h1,h2⟩,rfl,rfl⟩
theorem allK_mem{f:Nat->Nat->Nat}{x y:Nat}:∀{k:Nat},(x,y)∈allK f k↔x<k/\y<256/\f x y≠0
 |0=>by simp[allK]
 | k + 1 => by
  unfold allK;rw[List.mem_append,allK_mem,rowK_mem];constructor
  ·rintro(⟨h1,h2,h3⟩|⟨rfl,h2,h3⟩)
   ·exact⟨by omega,h2,h3⟩
   ·exact⟨by omega,h2,h3⟩
  ·rintro⟨h1,h2,h3⟩
   by_cases e:x=k
   ·subst e;exact .inr ⟨rfl,h2,h3⟩
   ·exact .inl ⟨by omega,h2,h3⟩
theorem rowK_yes{f:Nat->Nat->Nat}{m j:Nat}(h:f m j≠0):rowK f m (j+1)=rowK f m j++[(m,j)]:=by
 unfold rowK;rw[List.range_succ,List.filter_append,List.filter_cons_of_pos (by simpa using h),List.map_append];rfl
theorem rowK_no{f:Nat->Nat->Nat}{m j:Nat}(h:f m j=0):rowK f m (j+1)=rowK f m j:=by
 unfold rowK;rw[List.range_succ,List.filter_append,List.filter_cons_of_neg (by simpa using h)];simp
theorem rowK_fresh{f:Nat->Nat->Nat}{m j:Nat}:(m,j)∉allK f m++rowK f m j:=by
 rw[List.mem_append,allK_mem,rowK_mem];omega
theorem look142{f:Nat->Nat->Nat}{n:Nat}{h:Heap}{id:Nat}(hg:h.get id=some (.mp (entE f (allK f n)))){m w:Nat}(hm:m<n)(hw:w<256):lookupV Tryz.prog h 142 (.map id) (keyE m w) false=some (.int .i64 (f m w:Int)):=by
 have hz:zeroT Tryz.prog 3=some (.int .i64 0):=ty_zero3;have hf:=find170 f m w (allK f n);by_cases h0:f m w=0
 ·rw[if_neg (by rw[allK_mem];omega)]at hf
  simp[lookupV,Tryz.underlying142,key170,entriesV,hg,hf,hz,h0]
 ·rw[if_pos (by rw[allK_mem];exact⟨hm,hw,h0⟩)]at hf
  simp[lookupV,Tryz.underlying142,key170,entriesV,hg,hf]
section
variable{X:Ctx}{ops:Array Oper}{K P:AV->Fr->Prop}{F:Fr}{d:Option Tmp}{T:TypeId}{ps:String}{af:Array Edge}
theorem WO1.mapUp{t kt et:TypeId}{m k v:Operand}{id:Nat}{x y:AV}{es es':List (AV×AV)}(hu:X.P.underlying t=some (.map kt et))(hm:F.opv m=some (.map id))(hk:F.opv k=some x)(hv:F.opv v=some y)
  (hkey:keyOf X.P kt x=true) (hg:F.hp.get id=some (.mp es)) (hp:mapPut X.P kt x y es=some es') (h:K undefA (({ F with hp:=F.hp.put id (.mp es') }:Fr).put d undefA)):WO1 X ops ⟨d,.mapUpdate t m k v,T,ps,af,none⟩ F K P:=by
 refine U5 (v:=undefA) (F':={ F with hp:=F.hp.put id (.mp es') }) rfl (fun cl rd=>?_) h
 simp only[efV,Fr.mapUpdateE,hu,hm,hk,hv,hkey,if_true,hg,hp]
end
def leadF(b:Bk)(m w:Nat):Nat:=houN b.miss b.ghost b.moulds m (mdO b m) w 99
def leadR(b:Bk)(h:Heap)(r:COut):Prop:=∃id h',r= .ret (.map id) h' none/\h'.get id=some (.mp (entE (leadF b) (allK (leadF b) b.moulds.length)))/\HExt h h'/\h.next <=id/\id<h'.next
theorem leadR_fail{b:Bk}{h:Heap}:¬leadR b h .fail:=by rintro⟨_,_,e,_⟩;cases e
section
variable{c:Itr}
attribute [local irreducible] entE allK rowK
theorem C111(cx:CxH c)(hc:c 111=none)(hc93:c 93=none)(b:Bk)(sa dv bv:AV)(hbk:bookB b=true)(hm:MdsV sa b.moulds)(hn:Nat)(hm0:Mp Blk)(hO:OpO b.moulds dv bv ⟨hn,hm0⟩) :
  ClR (dX c) 111 [.agg [.int .i64 b.miss,.int .i64 b.ghost,sa,dv,bv]] ⟨hn,hm0⟩ (leadR b ⟨hn,hm0⟩):=by
 have os:=hm.out;have hlen:=hm.len;obtain⟨o1,o2⟩:=hO.outs;have k93:=fun(k:Nat) (d:Md) (hd:b.moulds[k]? =some d) (w:Nat) (hw:w<256) (hp:Heap) (hO:OpO b.moulds dv bv hp)=>C93 (c:=c) cx hc93 b.miss b.ghost sa dv bv b.moulds k d (MdG.of hm hbk hd) w hw 99 hp hO;have K93:=J1 k93;have HO:=J1 hO;have HML:=J1 hm.max;have ha0:entE (leadF b) (allK (leadF b) 0)=[]:=by unfold allK entE;rfl
 have HA0:=J1 ha0;clear k93 hO hm hbk ha0;refine ClR.walk (c:=_) hc Tryz.func111 rfl (by kernel_rfl) rfl leadR_fail ?_
 try simp only[entryEnv,Nat.reduceAdd,List.nil_append,List.cons_append,emptyHp]
 repeat' (first|(apply U5;exact rfl;(focus (intro cl rd;simp only[go_sem, *,Nat.reduceLT,Int.reduceEq,Int.reduceBEq,Int.reduceLE,Int.reduceLT,Nat.reduceAdd,Nat.reduceBEq,Nat.reduceEqDiff,reduceIte,Nat.reduceLeDiff,Nat.reduceMul,Nat.reduceSub,reduceCtorEq,efV,Fr.mapE,okO];with_reducible rfl));simp only[pM,pN])|refine go1 ?_|(refine go2 ?_ ?_<;>intro hh)|fail)
 refine W.loopV (b.moulds.length) [1,3,11] [1] (fun k e lm hp=>e.get 12=some (.int .i64 ↑k)/\HExt ⟨hn,hm0⟩ hp/\hp.get hn=some (.mp (entE (leadF b) (allK (leadF b) k)))/\hn<hp.next) ?_ ?_
 ·skip
  refine⟨?_,?_,?_,?_⟩
  ·simp[go_sem, *]
  ·exact⟨Nat.le_succ _,fun id hid=>by
    have hid':id<hn:=hid;exact J10⟩
  ·(simp only[Heap.get_new,Heap.get_put,hp_get,Mp.get_set,reduceIte];repeat (first|rw[if_pos rfl]|rw[if_neg (by omega)]))
   rw[HA0.out]
  ·exact Nat.lt_succ_self _
 intro k e lm hp hk0 hce hcl hinv;simp only[keepE,and_true]at hce;obtain⟨c1,c3,c11⟩:=hce;simp only[go_sem, *,Nat.reduceBEq,Nat.reduceEqDiff,reduceIte]at c1 c3 c11;simp only[keepL,and_true]at hcl;have d1:=hcl;clear hcl;simp only[go_sem, *,Nat.reduceBEq,Nat.reduceEqDiff,reduceIte]at d1;obtain⟨h12,hX,hg,hnx⟩:=hinv;by_cases hlt:k<b.moulds.length
 ·have hd0:=dT hlt
  have hv_0:=wrap_succ hlt HML.out;obtain⟨d,hd⟩:=get_some hlt;have hrk:rowK (leadF b) k 0=[]:=by unfold rowK;rfl
  have hg0:=hg;rw[show allK (leadF b) k=allK (leadF b) k++rowK (leadF b) k 0 from by rw[hrk,List.append_nil]]at hg0;have HG0:=J1 hg0;have HX:=J1 hX;have HNX:=J1 hnx;have HLT0:=J1 hlt;have HD:=J1 hd;clear hg hg0 hX hnx hrk hd hlt;repeat' (first|refine goS ?_|(refine go2 ?_ ?_<;>intro hh)|fail)
  refine W.loopV (256) [1,3,4,11,12] [1] (fun j e1 lm1 hp1=>e1.get 15=some (.int .i64 ↑j)/\HExt ⟨hn,hm0⟩ hp1/\hp1.get hn=some (.mp (entE (leadF b) (allK (leadF b) k++rowK (leadF b) k j)))/\hn<hp1.next) ?_ ?_
  ·skip
   refine⟨?_,HX.out,HG0.out,HNX.out⟩;simp[go_sem, *]
  intro j e1 lm1 hp1 hk1 hce hcl hinv;simp only[keepE,and_true]at hce;obtain⟨c1,c3,c4,c11,c12⟩:=hce;simp only[go_sem, *,Nat.reduceBEq,Nat.reduceEqDiff,reduceIte]at c1 c3 c4 c11 c12;simp only[keepL,and_true]at hcl;have d1:=hcl;clear hcl;simp only[go_sem, *,Nat.reduceBEq,Nat.reduceEqDiff,reduceIte]at d1;obtain⟨h15,hX,hg,hnx⟩:=hinv;by_cases hjt:j<256
  ·have hd1:=dT hjt
   have hv_1:=wrap_succ hjt (by unfold maxL;omega);have hd00:decide ((j:Int)<256)=true:=by simp only[decide_eq_true_eq];omega
   have k93:=K93.out k d HD.out j hjt hp1 (HO.out.keep hX);unfold ClR at k93;obtain⟨r,k93,⟨wn,wm⟩,rfl,hxz⟩:=k93;have hg2:wm.get hn=_:=(hxz.2 hn hnx).trans hg;have hX2:HExt ⟨hn,hm0⟩ ⟨wn,wm⟩:=hX.trans hxz;have hle:leadF b k j=houN b.miss b.ghost b.moulds k d j 99:=by unfold leadF;rw[mdO_is HD.out]
   rw[<-hle]at k93;have hy:=rowK_yes (f:=leadF b) (m:=k) (j:=j);have hno:=rowK_no (f:=leadF b) (m:=k) (j:=j);have hmp:=put170 (leadF b) k j (allK (leadF b) k++rowK (leadF b) k j) rowK_fresh;have hkey:=key170 k j;have HX2:=J1 hX2;have hwn:hn<wn:=Nat.lt_of_lt_of_le hnx hxz.1;have HWN:=J1 hwn;have HLT1:=J1 hjt;have HYS:=J1 hy;have HNO:=J1 hno;obtain⟨pn,pm⟩:=hp1;unfold keyE at hmp hkey;clear hX hg hnx hxz hX2 hwn hjt hle hy hno;cases hr:(leadF b k j !=0)with
   |false=>
    have h0:leadF b k j=0:=by simpa using hr
    have hno:=HNO.out h0;rw[h0]at k93;have hb:(((0:Nat):Int) !=0)=false:=rfl;have HG2:=J1 hg2;have HN2:=J1 hno;clear h0 hno hr hmp hg2 HNO HYS;repeat' (first|refine goS ?_|refine uJ k93 ?_|(refine go2 ?_ ?_<;>intro hh)|fail)
    all_goals refine contV_mk (by first|assumption|exact HLT1.out|exact HLT0.out) J7 J8 ?_
    all_goals refine⟨?_,HX2.out,?_,HWN.out⟩
    all_goals first|exact Z2|skip
    rw[HN2.out];exact HG2.out
   | true =>
    have h0:leadF b k j≠0:=by simpa using hr
    have hy:=HYS.out h0;have hb:(((leadF b k j:Nat):Int) !=0)=true:=by rw[bne_iff_ne];omega
    have HY2:=J1 hy;rw[List.append_assoc,<-hy]at hmp;generalize hes:entE (leadF b) (allK (leadF b) k++rowK (leadF b) k j)=es at *;have hmg:=hg2;clear h0 hy hr HNO HYS hes;repeat' (first|(apply WO1.mapUp (kt:=170) (et:=3) (es:=es);(focus (exact Tryz.underlying142));exact Z1;exact Z1;exact Z1;(focus (exact hkey));(focus (simp only[go_sem, *,Nat.reduceLT,Int.reduceEq,Int.reduceBEq,Int.reduceLE,Int.reduceLT,Nat.reduceAdd,Nat.reduceBEq,Nat.reduceEqDiff,reduceIte,Nat.reduceLeDiff,Nat.reduceMul,Nat.reduceSub,reduceCtorEq];first|done|exact hmg));(focus (exact hmp));simp only[pM,pN])|refine go1 ?_|refine uJ k93 ?_|(refine go2 ?_ ?_<;>intro hh)|fail)
    all_goals refine contV_mk (by first|assumption|exact HLT1.out|exact HLT0.out) J7 J8 ?_
    all_goals refine⟨?_,?_,?_,HWN.out⟩
    all_goals first|exact Z2|skip
    ·refine⟨HX2.out.1,fun id hid=>?_⟩
     have hid':id<hn:=hid;refine(Heap.get_put ..).trans ?_;rw[if_neg (by omega)];exact HX2.out.2 id hid
  ·have hd1:=dF hjt
   obtain rfl:j=256:=by omega
   have hd00:decide (((256:Nat):Int)<256)=false:=rfl;rw[<-allK_succ]at hg;have HX2:=J1 hX;have HG2:=J1 hg;have HN2:=J1 hnx;clear hX hg hnx;repeat' (first|refine goS ?_|(refine go2 ?_ ?_<;>intro hh)|fail)
   all_goals refine contV_mk J9 J7 J8 ?_
   all_goals refine⟨?_,HX2.out,HG2.out,HN2.out⟩
   all_goals first|exact Z2|skip
 ·have hd0:=dF hlt
  obtain rfl:k=b.moulds.length:=by omega
  have HX2:=J1 hX;have HG2:=J1 hg;have HN2:=J1 hnx;clear hX hg hnx;repeat' (first|refine goS ?_|(refine go2 ?_ ?_<;>intro hh)|fail)
  all_goals (simp only[rV Tryz.func111,Tryz.results111];first|exact J5|refine J6 ?_)
  exact⟨hn,_,rfl,HG2.out,HX2.out,Nat.le_refl _,HN2.out⟩
end
end
section
attribute [local irreducible] roundQ RdR patC memP grownS setP cutF birF houN entE allK rowK leadF
def orL(f:Nat->Nat->Nat)(gone:List Int)(w:Nat):Nat->Nat
 |0=>0
 |k+1=>if (gone.any fun x=>decide ((k:Int)=x))=true then orL f gone w k else orL f gone w k ||| f k w
theorem orL_zero(f:Nat->Nat->Nat)(gone:List Int)(w:Nat):orL f gone w 0=0:=rfl
theorem orL_gone{f:Nat->Nat->Nat}{gone:List Int}{w k:Nat}(h:(gone.any fun x=>decide ((k:Int)=x))=true):orL f gone w (k+1)=orL f gone w k:=by
 conv=>lhs;unfold orL
 rw[if_pos h]
theorem orL_next{f:Nat->Nat->Nat}{gone:List Int}{w k:Nat}(h:(gone.any fun x=>decide ((k:Int)=x))=false):orL f gone w (k+1)=orL f gone w k ||| f k w:=by
 conv=>lhs;unfold orL
 rw[if_neg (by rw[h];decide)]
theorem orL_lt{f:Nat->Nat->Nat}(hf:∀m w,f m w<64)(gone:List Int)(w:Nat):∀k,orL f gone w k<64
 |0=>by unfold orL;decide
 |k+1=>by
  have ih:=orL_lt hf gone w k;unfold orL;split
  ·exact ih
  ·exact Nat.or_lt_two_pow (n:=6) ih (hf k w)
def clearP(f:Nat->Nat->Nat)(gone:List Int)(n w:Nat):Bool:=decide ((cntN (orL f gone w n):Int) <=1)
def clearB(f:Nat->Nat->Nat)(gone:List Int)(n:Nat):Bool:=(List.range 256).all (clearP f gone n)
theorem clearB_yes{f:Nat->Nat->Nat}{gone:List Int}{n:Nat}(h:∀j,j<256->clearP f gone n j=true):clearB f gone n=true:=by
 unfold clearB;rw[List.all_eq_true];exact fun x hx=>h x (List.mem_range.1 hx)
theorem clearB_no{f:Nat->Nat->Nat}{gone:List Int}{n j:Nat}(hj:j<256)(h:clearP f gone n j=false):clearB f gone n=false:=by
 unfold clearB;rw[List.all_eq_false];exact⟨j,List.mem_range.2 hj,by rw[h];decide⟩
attribute [local irreducible] orL cntN
section
variable{c:Itr}
theorem C113(hc:c 113=none)(hc1:c 146=none)(h171:(dX c).intr 171=some (pureFn sp171))(h145:(dX c).intr 145=some (flatFn sp145))(mi gh:Int)(sa dv bv:AV)(o1:outV (some dv)=some dv)(o2:outV (some bv)=some bv)(l:List Md)(hm:MdsV sa l)(f:Nat->Nat->Nat)(hf:∀m w,f m w<64)(id:Nat)(ga:AV)(gone:List Int)(og:outV (some ga)=some ga)(h:Heap)(hs:SeeV h intC ga gone)(hg:h.get id=some (.mp (entE f (allK f l.length)))) :
  Cl (dX c) 113 [.agg [.int .i64 mi,.int .i64 gh,sa,dv,bv],.map id,ga] h (.ret (.bool (clearB f gone l.length)) h none):=by
 refine ClR.cl ?_;have os:=hm.out;have hlen:=hm.len;have k145:=fun v:Int=>K145 (X:=dX c) h145 v hs;have k146:=fun(n:Nat) (hn:n<256) h=>C146 (c:=c) hc1 h171 n hn h;have hlk:=fun(m w:Nat) (hm:m<l.length) (hw:w<256)=>look142 hg hm hw;have HLK:=J1 hlk;have K145:=J1 k145;have K146:=J1 k146;have HF:=J1 hf;have HML:=J1 hm.max;have hu3:=Tryz.underlying3;have hu172:=Tryz.underlying172;clear hlk k145 k146 hf hm hs hg;refine ClR.walk (c:=_) hc Tryz.func113 rfl (by kernel_rfl) rfl (fun e=>by cases e) ?_
 try simp only[entryEnv,Nat.reduceAdd,List.nil_append,List.cons_append,emptyHp]
 repeat' (first|(refine W.label ?_;simp only[tN,bN,eN,true_and])|refine go1 ?_|(refine go2 ?_ ?_<;>intro hh)|fail)
 refine W.loopH (256) [1,2,3] [3] (fun k e lm=>e.get 10=some (.int .i64 ↑k)/\(∀j,j<k->clearP f gone l.length j=true)) ?_ ?_
 ·skip
  refine⟨?_,fun j hj=>absurd hj (Nat.not_lt_zero _)⟩;simp[go_sem, *]
 intro k e lm hk0 hce hcl hinv;simp only[keepE,and_true]at hce;obtain⟨c1,c2,c3⟩:=hce;simp only[go_sem, *,Nat.reduceBEq,Nat.reduceEqDiff,reduceIte]at c1 c2 c3;simp only[keepL,and_true]at hcl;have d3:=hcl;clear hcl;simp only[go_sem, *,Nat.reduceBEq,Nat.reduceEqDiff,reduceIte]at d3;obtain⟨h10,hall⟩:=hinv;by_cases hlt:k<256
 ·have hd0:=dT hlt
  have hv_0:=wrap_succ hlt (by unfold maxL;omega);have hd00:decide ((k:Int)<256)=true:=by simp only[decide_eq_true_eq];omega
  have HALL:=J1 hall;have HLT0:=J1 hlt;have h0:=orL_zero f gone k;have H0:=J1 h0;clear hall hlt h0;repeat' (first|refine goS ?_|(refine go2 ?_ ?_<;>intro hh)|fail)
  refine W.loopH (l.length) [1,2,3,7,10,16] [3] (fun j e1 lm1=>e1.get 17=some (.int .i64 ↑j)/\e1.get 8=some (.int .i64 (orL f gone k j:Int))) ?_ ?_
  ·skip
   refine⟨?_,?_⟩
   ·simp[go_sem, *]
   ·rw[H0.out];simp[go_sem, *]
  intro j e1 lm1 hk1 hce hcl hinv;simp only[keepE,and_true]at hce;obtain⟨c1,c2,c3,c7,c10,c16⟩:=hce;simp only[go_sem, *,Nat.reduceBEq,Nat.reduceEqDiff,reduceIte]at c1 c2 c3 c7 c10 c16;simp only[keepL,and_true]at hcl;have d3:=hcl;clear hcl;simp only[go_sem, *,Nat.reduceBEq,Nat.reduceEqDiff,reduceIte]at d3;obtain⟨h17,h8⟩:=hinv;by_cases hjt:j<l.length
  ·have hd1:=dT hjt
   have hv_1:=wrap_succ hjt HML.out;have k145:=K145.out (j:Int);have hlk:=HLK.out j k hjt HLT0.out;unfold keyE at hlk;have hlt:=orL_lt HF.out gone k j;have hfl:=HF.out j k;have hor:=op_or (a:=orL f gone k j) (b:=f j k) (by omega) (by omega);have hgo:=orL_gone (f:=f) (gone:=gone) (w:=k) (k:=j);have hnx:=orL_next (f:=f) (gone:=gone) (w:=k) (k:=j);have HLT1:=J1 hjt;have HGO:=J1 hgo;have HNX:=J1 hnx;clear hlt hfl hjt hgo hnx;generalize (gone.any fun x=>decide ((j:Int)=x))=gb at *;cases gb with
   |true=>
    have hgo:=HGO.out rfl;have HG2:=J1 hgo;clear hgo HGO HNX;repeat' (first|refine goS ?_|refine uJ k145 ?_|(refine go2 ?_ ?_<;>intro hh)|fail)
    all_goals refine contH_mk (by first|assumption|exact HLT1.out|exact HLT0.out) J7 J8 ?_
    all_goals refine⟨?_,?_⟩
    all_goals first|exact Z2|skip
    all_goals (rw[HG2.out];simp only[go_sem, *,Nat.reduceLT,Int.reduceEq,Int.reduceBEq,Int.reduceLE,Int.reduceLT,Nat.reduceAdd,Nat.reduceBEq,Nat.reduceEqDiff,reduceIte,Nat.reduceLeDiff,Nat.reduceMul,Nat.reduceSub,reduceCtorEq])
   |false=>
    have hnx:=HNX.out rfl;have HG2:=J1 hnx;clear hnx HGO HNX;repeat' (first|refine goS ?_|refine uJ k145 ?_|(refine go2 ?_ ?_<;>intro hh)|fail)
    all_goals refine contH_mk (by first|assumption|exact HLT1.out|exact HLT0.out) J7 J8 ?_
    all_goals refine⟨?_,?_⟩
    all_goals first|exact Z2|skip
    all_goals (rw[HG2.out];simp only[go_sem, *,Nat.reduceLT,Int.reduceEq,Int.reduceBEq,Int.reduceLE,Int.reduceLT,Nat.reduceAdd,Nat.reduceBEq,Nat.reduceEqDiff,reduceIte,Nat.reduceLeDiff,Nat.reduceMul,Nat.reduceSub,reduceCtorEq])
  ·have hd1:=dF hjt
   obtain rfl:j=l.length:=by omega
   have hlt:=orL_lt HF.out gone k l.length;have hcp:clearP f gone l.length k=decide ((cntN (orL f gone k l.length):Int) <=1):=rfl;have k146:=fun h=>K146.out (orL f gone k l.length) (by omega) h;have hwu:=wrap_u (n:=orL f gone k l.length) (by omega);have HCP:=J1 hcp;clear hlt hcp;generalize orL f gone k l.length=z at *;generalize cntN z=y at *;cases hcy:decide ((y:Int) <=1)with
   | true =>
    have hcp:=HCP.out;rw[hcy]at hcp;have hnn:∀j,j<k+1->clearP f gone l.length j=true:=fun j hj=>by
     by_cases e:j=k
     ·subst e;exact hcp
     ·exact HALL.out j (by omega)
    have HNN:=J1 hnn;clear hcp hnn;repeat' (first|refine goS ?_|refine uJ (k146 _) ?_|(refine go2 ?_ ?_<;>intro hh)|fail)
    all_goals refine contH_mk J9 J7 J8 ?_
    all_goals refine⟨?_,HNN.out⟩
    all_goals first|exact Z2|skip
   |false=>
    have hcp:=HCP.out;rw[hcy]at hcp;rw[clearB_no HLT0.out hcp];clear hcp;repeat' (first|refine goS ?_|refine uJ (k146 _) ?_|(refine go2 ?_ ?_<;>intro hh)|fail)
    all_goals (simp only[rV Tryz.func113,Tryz.results113];first|exact J5|refine J6 ?_)
    all_goals rfl
 ·have hd0:=dF hlt
  obtain rfl:k=256:=by omega
  have hd00:decide (((256:Nat):Int)<256)=false:=rfl;rw[clearB_yes hall];clear hall;repeat' (first|refine goS ?_|(refine go2 ?_ ?_<;>intro hh)|fail)
  all_goals (simp only[rV Tryz.func113,Tryz.results113];first|exact J5|refine J6 ?_)
  all_goals rfl
end
end
end Go.AM
