/-
    A part of the proof: contracts of functions.
-/
import Derived.Test.YtgihdicidaipmaaGreatDoorTAW
import Derived.Test.YtgihdicidaipmaaGreatDoorTAV
import Derived.Test.YtgihdicidaipmaaGreatDoorTBD
import Derived.Test.YtgihdicidaipmaaGreatDoorTBF
import Derived.Test.YtgihdicidaipmaaGreatDoorTBA
set_option linter.unusedSectionVars false
set_option linter.unusedVariables false
set_option linter.unusedSimpArgs false
set_option maxRecDepth 100000
set_option maxHeartbeats 16000000
namespace Go.AM
open Go Go.Proofs
variable[Keep]
attribute [local irreducible] W WO WO1 WD WQ WT thenQ blockQ endR isRet retK Cl ClR
section
attribute [local irreducible] natsE bestN nodeW okW leadF clearB goneB bfrB shortB
noncomputable def c9:Itr
 |21=>some (pureFn sp21)
 |48=>some (pureFn sp48)
 |49=>some (pureFn sp49)
 |50=>some (newQ sp50)
 |51=>some (pureFn sp51)
 |52=>some (pureFn sp52)
 |_=>none
theorem K21{X:Ctx}(hX:X.intr 21=some (pureFn sp21))(h:Heap):Cl X 21 [] h (.ret (.bool true) h none):=Cl.intr hX rfl
end
section
open Go.Mo7 (insR insP)
theorem num_at{l:List Md}{m:Int}(h:numB l m=true):∃(n:Nat) (d:Md),m=(n:Int)/\l[n]? =some d:=by
 unfold numB inB at h;rw[Bool.and_eq_true,decide_eq_true_eq,decide_eq_true_eq]at h;obtain⟨d,hd⟩:=get_some (l:=l) (k:=m.toNat) (by omega);exact⟨m.toNat,d,by omega,hd⟩
theorem book_md{b:Bk}(hbk:bookB b=true)(hmx:b.moulds.length <=maxL){n:Nat}{d:Md}(hd:b.moulds[n]? =some d):lnsOk d.loans/\d.loans.length <=3:=by
 unfold bookB at hbk;simp only[Bool.and_eq_true]at hbk;have hn:=(List.getElem?_eq_some_iff.1 hd).1;have h1:=(bookP_at hbk.2 hn hd).1;have h2:=mdOk_parts (n:=n) (by omega) h1;exact⟨h2.2.2.2.2.2.2.2.2,h2.2.2.2.2.2.2.1.2⟩
theorem mdAt_is{b:Bk}{n:Nat}{d:Md}(hd:b.moulds[n]? =some d):mdAt b (n:Int)=d:=by
 unfold mdAt;rw[Int.toNat_natCast,List.getD_eq_getElem?_getD,hd];rfl
attribute [local irreducible] natsE houseF lisN bookB allDays shortB numB inB insR insP
noncomputable def c4:Itr
 |21=>some (pureFn sp21)
 |48=>some (pureFn sp48)
 |24=>some (pureFn sp24)
 |25=>some (pureFn sp25)
 |27=>some (newQ sp27)
 |29=>some (flatFn sp29)
 |81=>some (pureFn sp81)
 |133=>some (pureFn sp133)
 |_=>none
end
section
open Go.Mo7 (insR befH)
theorem un36{ls:List Ln}(ok:lnsOk ls)(h3:ls.length <=3)(day:Int):∃u:Nat,untP ls day=(u:Int)/\u <=36:=by
 have h0:=befH_bd ok h3 (cntD ls day ls.length);have h12:∀k,k <=ls.length->befH (lns7 ls) k <=12 * (k:Int):=by
  intro k;induction k with
  |zero=>intro _;rw[befH_zero];omega
  |succ k ih=>
   intro hk;obtain⟨x,hx⟩:=get_some (l:=ls) (k:=k) (by omega);rw[befH_at hx];have:=ih (by omega);have:=badL_no (ok x (List.mem_of_getElem? hx));omega
 have h1:=h12 _ (cntD_le ls day ls.length);have h2:=cntD_le ls day ls.length;refine⟨(untP ls day).toNat,?_,?_⟩
 ·unfold untP;omega
 ·unfold untP;omega
def rowS(sz:Nat)(l:List AV)(h:Heap)(r:COut):Prop:=∃h' v,HExt h h'/\r= .ret v h' none/\BltN h.next h' v sz l
theorem rowS_fail{sz:Nat}{l:List AV}{h:Heap}:¬rowS sz l h .fail:=by rintro⟨_,_,_,e,_⟩;cases e
def wayE(l:List (Nat×Nat)):List AV:=l.map fun p=>.agg [.int .i64 (p.1:Int),.int .i64 (p.2:Int)]
theorem wayE_app(l:List (Nat×Nat))(s k:Nat):wayE (l++[(s,k)])=wayE l++[.agg [.int .i64 (s:Int),.int .i64 (k:Int)]]:=by simp[wayE]
theorem wayE_len(l:List (Nat×Nat)):(wayE l).length=l.length:=by simp[wayE]
theorem wayE_nil:wayE []=[]:=rfl
def waysB(b:Bk)(m:Nat)(d:Md)(seen:Nat)(day:Int):List (Nat×Nat):=waysF (agrK b.miss b.ghost b.moulds m d seen) d.loans day 36
attribute [local irreducible] wayE waysF wayR insR dayA agrK agR
section
variable{c:Itr}
structure CxY(c:Itr):Prop where
 h42:c 42=none
 h105:c 105=none
 h106:c 106=none
 h109:c 109=none
 h144:c 144=none
 h36:c 36=none
 h85:c 85=none
 h95:c 95=none
 h133:(dX c).intr 133=some (pureFn sp133)
theorem C36(cx:CxY c)(b:Bk)(sa:AV)(hm:MdsV sa b.moulds)(hbk:bookB b=true)(m:Nat)(d:Md)(hd:b.moulds[m]? =some d)(seen:Nat)(hsn:seen<256)(day:Int)(h:Heap) :
  ClR (dX c) 36 [.agg [.int .i64 b.miss,.int .i64 b.ghost,sa],.agg [.int .i64 (seen:Int),.int .i64 day],.int .i64 (m:Int)] h (rowS 2 (wayE (waysB b m d seen day)) h):=by
 have hc:=cx.h36;have os:=hm.out;obtain⟨ma,la,v1,v2,hix⟩:=hm.elem m d hd;have om:=sl_out v1;have ol:=sl_out v2;have ll:=sl_len v2;have ml:=sl_max v2;obtain⟨ok3,h3⟩:=book_md hbk hm.max hd;have k42:=fun(k:Nat) (hk:k<36) (h:Heap)=>C42 (c:=c) cx.h42 cx.h105 cx.h106 cx.h109 cx.h144 cx.h133 b sa hm hbk m d hd ((k+1:Nat):Int) (by omega) seen hsn h;have hag:∀k:Nat,agR b m ((k+1:Nat):Int) seen=agrK b.miss b.ghost b.moulds m d seen k:=fun k=>by
  unfold agrK;exact agR_is hbk hm.max hd ((k+1:Nat):Int) hsn
 simp only[hag]at k42;have k85:=fun(n:Nat) (hn:n<d.loans.length) (k:Nat) (h:Heap)=>C85 (c:=c) cx.h85 d.parent d.clo d.chi ma la om d.loans v2 ok3 h3 n hn ((k+1:Nat):Int) h;have k95:=fun(n:Nat) (hn:n<d.loans.length) (h:Heap)=>C95 (c:=c) cx.h95 d.parent d.clo d.chi ma la om d.loans v2 n hn h;unfold waysB;generalize agrK b.miss b.ghost b.moulds m d seen=ok at *;have K42:=J1 k42;have K85:=J1 k85;have K95:=J1 k95;have H3:=J1 h3;have h00:wayE (waysF ok d.loans day 0)=[]:=by rw[waysF_zero,wayE_nil]
 have H00:=J1 h00;clear hm hd v1 v2 hbk hag k42 k85 k95 ok3 h3 h00;refine ClR.walk (c:=_) hc Tryz.func36 rfl (by kernel_rfl) rfl rowS_fail ?_
 try simp only[entryEnv,Nat.reduceAdd,List.nil_append,List.cons_append,emptyHp]
 repeat' (first|refine goS ?_|(refine go2 ?_ ?_<;>intro hh)|fail)
 refine W.loopV (36) [2,3,4,8] [3,4,8] (fun k e lm hp=>∃u,e.get 9=some (.int .i64 ((k+1:Nat):Int))/\e.get 7=some (u)/\BltN h.next hp u 2 (wayE (waysF ok d.loans day k))/\HExt h hp) ?_ ?_
 ·skip
  refine⟨.nilslice,?_,?_,?_,HExt.refl _⟩
  ·simp[go_sem, *]
  ·simp[go_sem, *]
  ·rw[H00.out];exact BltN.nil
 intro k e lm hp hk0 hce hcl hinv;simp only[keepE,and_true]at hce;obtain⟨c2,c3,c4,c8⟩:=hce;simp only[go_sem, *,Nat.reduceBEq,Nat.reduceEqDiff,reduceIte]at c2 c3 c4 c8;simp only[keepL,and_true]at hcl;obtain⟨d3,d4,d8⟩:=hcl;simp only[go_sem, *,Nat.reduceBEq,Nat.reduceEqDiff,reduceIte]at d3 d4 d8;obtain⟨u,h9,h7,hB,hX⟩:=hinv;by_cases hlt:k<36
 ·have hd0:=dT hlt
  have hv_0:=wrap_succ hlt (by unfold maxL;omega);have hle:decide (((k+1:Nat):Int) <=36)=true:=by simp only[decide_eq_true_eq];omega
  have hw:IntKind.i64.wrap (((k+1:Nat):Int)+1)=((k+1+1:Nat):Int):=by rw[wrap_small (by omega) (by omega)];omega
  have k42:=K42.out k hlt hp;unfold ClR at k42;obtain⟨r,k42,hz,rfl,hxz⟩:=k42;have HB:=J1 (hB.keep hxz);have hXX:=hX.trans hxz;clear hB hX hxz;have HX:=J1 hXX;have hbo1:=HB.out.blt.out;have HLT0:=J1 hlt;have HKL:(waysF ok d.loans day k).length <=108:=by
   have h1:=waysF_len ok d.loans day k;have h3:=H3.out;have:k * d.loans.length <=36 * 3:=Nat.mul_le_mul (by omega) h3;omega
  have HKL:=J1 HKL;clear hlt hXX;cases hk:ok k with
  |false=>
   rw[hk]at k42;have hnx:=waysF_no hk d.loans day;have HNX:=J1 hnx;clear hnx hk;repeat' (first|refine goS ?_|refine uJ k42 ?_|(refine go2 ?_ ?_<;>intro hh)|fail)
   all_goals refine contV_mk J9 J7 J8 ?_
   all_goals refine⟨u,?_,?_,?_,HX.out⟩
   all_goals first|exact Z2|skip
   ·rw[HNX.out];exact HB.out
  | true =>
   rw[hk]at k42;have hnx:=waysF_yes hk d.loans day;have HNX:=J1 hnx;clear hnx hk;have h0w:waysF ok d.loans day k=waysF ok d.loans day k++wayR d.loans day (k+1) 0:=by rw[wayR_zero,List.append_nil]
   have H0W:=J1 h0w;clear h0w;repeat' (first|refine goS ?_|refine uJ k42 ?_|(refine go2 ?_ ?_<;>intro hh)|fail)
   refine W.loopV (d.loans.length) [2,3,4,8,9] [3,4,8] (fun j e1 lm1 hp1=>∃w,e1.get 10=some (.int .i64 ↑j)/\e1.get 7=some (w)/\BltN h.next hp1 w 2 (wayE (waysF ok d.loans day k++wayR d.loans day (k+1) j))/\HExt h hp1) ?_ ?_
   ·skip
    refine⟨u,?_,?_,?_,HX.out⟩
    ·simp[go_sem, *]
    ·simp[go_sem, *]
    ·rw[<-H0W.out];exact HB.out
   intro j e1 lm1 hp1 hk1 hce hcl hinv;simp only[keepE,and_true]at hce;obtain⟨c2,c3,c4,c8,c9⟩:=hce;simp only[go_sem, *,Nat.reduceBEq,Nat.reduceEqDiff,reduceIte]at c2 c3 c4 c8 c9;simp only[keepL,and_true]at hcl;obtain⟨d3,d4,d8⟩:=hcl;simp only[go_sem, *,Nat.reduceBEq,Nat.reduceEqDiff,reduceIte]at d3 d4 d8;obtain⟨w,h10,h7,hB,hX⟩:=hinv;by_cases hjt:j<d.loans.length
   ·have hd1:=dT hjt
    have hv_1:=wrap_succ hjt ml;have k85:=K85.out j hjt k;have k95:=K95.out j hjt;have hbo2:=hB.blt.out;have hll:(wayE (waysF ok d.loans day k++wayR d.loans day (k+1) j)).length+1 <=most:=by
     rw[wayE_len,List.length_append];have h1:=wayR_len d.loans day (k+1) j;have h2:=HKL.out;have h3:=H3.out;unfold most;omega
    have HJT:=J1 hjt;have hyes:=fun h1 h2=>wayR_yes (ls:=d.loans) (day:=day) (s:=k+1) (n:=j) h1 h2;have hno:=fun h1=>wayR_no (ls:=d.loans) (day:=day) (s:=k+1) (n:=j) h1;have HYES:=J1 hyes;have HNO:=J1 hno;clear hjt hyes hno;cases h1:insR (lns7 d.loans) j ((k+1:Nat):Int)with
    |false=>
     rw[h1]at k85;have hnw:=HNO.out (by rw[h1];rfl);have HNW:=J1 hnw;have HB2:=J1 hB;have HX2:=J1 hX;clear hnw h1 hB hX;repeat' (first|(apply W.drawQ (id:=10) (l1:=[0,1,2,3,4,5,6,7,8,9,10,11]) (l2:=[]);kernel_rfl;kernel_rfl;kernel_rfl;exact Z4)|refine gJ ?_|refine go1 ?_|refine uJ (k85 _) ?_|(refine go2 ?_ ?_<;>intro hh)|fail)
     all_goals refine contV_mk (by first|assumption|exact HLT1.out|exact HLT0.out) J7 J8 ?_
     all_goals refine⟨w,?_,?_,?_,HX2.out⟩
     all_goals first|exact Z2|skip
     ·rw[HNW.out];exact HB2.out
    | true =>
     rw[h1]at k85;cases h2:decide (dayA d.loans (j+1) <=day)with
     |false=>
      have hnw:=HNO.out (by rw[h1,h2];rfl);have HNW:=J1 hnw;have HB2:=J1 hB;have HX2:=J1 hX;clear hnw h1 hB hX;repeat' (first|(apply W.drawQ (id:=10) (l1:=[0,1,2,3,4,5,6,7,8,9,10,11]) (l2:=[]);kernel_rfl;kernel_rfl;kernel_rfl;exact Z4)|refine go1 ?_|refine uJ (k85 _) ?_|refine uJ (k95 _) ?_|(refine go2 ?_ ?_<;>intro hh)|fail)
      all_goals refine contV_mk (by first|assumption|exact HLT1.out|exact HLT0.out) J7 J8 ?_
      all_goals refine⟨w,?_,?_,?_,HX2.out⟩
      all_goals first|exact Z2|skip
      ·rw[HNW.out];exact HB2.out
     |true=>
      have hnw:=HYES.out h1 h2;have HNW:=J1 hnw;clear hnw h1;repeat' (first|(apply W.drawQ (id:=10) (l1:=[0,1,2,3,4,5,6,7,8,9,10,11]) (l2:=[]);kernel_rfl;kernel_rfl;kernel_rfl;exact Z4)|(apply WO1.appendN (t:=50) (u:=50) (e:=54) (e':=54) (sz:=2) (tl:=[]) (hb:=hB) (hx:=HExt.pair hX);exact Z1;exact rfl;exact Z2;exact Z2;exact Z2;(focus (exact ty_row50));exact Z1;(focus (intro v hv;simp at hv;subst hv;first|rfl|exact hsc));(focus (simp only[List.length_map,List.length_cons,List.length_nil];exact hll));(focus (simp));(intro v' h' hB' ho' hX';have hcc':=hB'.blt.cells;have htt':=hB'.blt.tup;simp only[AV.cells]at hcc';simp only[isTuple]at htt';simp only[pM,pN]))|refine go1 ?_|refine uJ (k85 _) ?_|refine uJ (k95 _) ?_|(refine go2 ?_ ?_<;>intro hh)|fail)
      all_goals refine contV_mk (by first|assumption|exact HLT1.out|exact HLT0.out) J7 J8 ?_
      all_goals refine⟨v',?_,?_,?_,hX'⟩
      all_goals first|exact Z2|skip
      ·rw[HNW.out,<-List.append_assoc,wayE_app];exact hB'
   ·have hd1:=dF hjt
    obtain rfl:j=d.loans.length:=by omega
    have HB2:=J1 hB;have HX2:=J1 hX;have hbo2:=HB2.out.blt.out;clear hB hX;repeat' (first|refine goS ?_|(refine go2 ?_ ?_<;>intro hh)|fail)
    all_goals refine contV_mk J9 J7 J8 ?_
    all_goals refine⟨w,?_,?_,?_,HX2.out⟩
    all_goals first|exact Z2|skip
    ·rw[HNX.out];exact HB2.out
 ·have hd0:=dF hlt
  obtain rfl:k=36:=by omega
  have hle:decide (((36+1:Nat):Int) <=36)=false:=rfl;have hbo1:=hB.blt.out;have HX:=J1 hX;have HB:=J1 hB;clear hB hX;repeat' (first|refine goS ?_|(refine go2 ?_ ?_<;>intro hh)|fail)
  all_goals (simp only[rV Tryz.func36,Tryz.results36];first|exact J5|refine J6 ?_)
  exact⟨_,_,HX.out,rfl,HB.out⟩
end
end
section
open Go.Mo7 (insR befH)
attribute [local irreducible] wayE waysF wayR insR dayA agrK wayH lisN natsE betW couldN whoN houN oqL waysB
theorem way_bet{b:Bk}(hbk:bookB b=true)(hmx:b.moulds.length <=maxL){m:Nat}{d:Md}(hd:b.moulds[m]? =some d)(seen:Nat)(day:Int) :
  (waysB b m d seen day=[]↔(betW b.miss b.ghost b.moulds m d seen day).1=0)/\endsW (waysB b m d seen day)=betW b.miss b.ghost b.moulds m d seen day:=by
 obtain⟨ok3,h3⟩:=book_md hbk hmx hd;obtain⟨u,hu,hu2⟩:=un36 ok3 h3 day;have h:=ways_ends (ok:=agrK b.miss b.ghost b.moulds m d seen) ok3 day hu 36;have e:min 36 u=u:=by omega
 rw[e]at h;have e2:betW b.miss b.ghost b.moulds m d seen day=betF (agrK b.miss b.ghost b.moulds m d seen) u:=by unfold betW;rw[hu,Int.toNat_natCast]
 rw[e2];unfold waysB;exact h
theorem way_mem{b:Bk}{m:Nat}{d:Md}{seen:Nat}{day:Int}{k:Nat}{p:Nat×Nat}(h:(waysB b m d seen day)[k]? =some p):p.2<d.loans.length:=by
 have:=List.mem_of_getElem? h;unfold waysB at this;obtain⟨i,_,_,_,h,_⟩:=mem_ways.1 this;exact h
theorem way_len{b:Bk}(hbk:bookB b=true)(hmx:b.moulds.length <=maxL){m:Nat}{d:Md}(hd:b.moulds[m]? =some d)(seen:Nat)(day:Int):(waysB b m d seen day).length <=108:=by
 obtain⟨ok3,h3⟩:=book_md hbk hmx hd;have h:=waysF_len (agrK b.miss b.ghost b.moulds m d seen) d.loans day 36;unfold waysB;omega
theorem way_house{b:Bk}(hbk:bookB b=true)(hmx:b.moulds.length <=maxL){m:Nat}{d:Md}(hd:b.moulds[m]? =some d)(seen:Nat)(day:Int):wayH d.loans (waysB b m d seen day)=houN b.miss b.ghost b.moulds m d seen day:=by
 unfold waysB;exact wayH_is (book_md hbk hmx hd).1
theorem wayE_at{l:List (Nat×Nat)}{k:Nat}{p:Nat×Nat}(h:l[k]? =some p):(wayE l)[k]? =some (.agg [.int .i64 (p.1:Int),.int .i64 (p.2:Int)]):=by
 unfold wayE;rw[List.getElem?_map,h];rfl
theorem wayH_lt{ls:List Ln}(ok:lnsOk ls):∀(l:List (Nat×Nat)) (a:Nat),a<64->l.foldl (fun a p=>match ls[p.2]? with|some x=>a ||| 2 ^ x.house.toNat|none=>a) a<64
 | [],a,h=>h
 | p :: l, a, h => by
  rw[List.foldl_cons];refine wayH_lt ok l _ ?_;cases hx:ls[p.2]? with
  |none=>exact h
  |some x=>
   have hb:=badL_no (ok x (List.mem_of_getElem? hx));have h2:2 ^ x.house.toNat<2 ^ 6:=Nat.pow_lt_pow_right (by omega) (by omega);exact Nat.or_lt_two_pow (n:=6) h h2
section
variable{c:Itr}
structure CxZ(c:Itr):Prop extends CxY c where
 h86:c 86=none
 h87:c 87=none
 h94:c 94=none
 h81:(dX c).intr 81=some (pureFn sp81)
theorem C94(cx:CxZ c)(b:Bk)(sa:AV)(hm:MdsV sa b.moulds)(hbk:bookB b=true)(m:Nat)(d:Md)(hd:b.moulds[m]? =some d)(seen:Nat)(hsn:seen<256)(day:Int)(h:Heap) :
  ClR (dX c) 94 [.agg [.int .i64 b.miss,.int .i64 b.ghost,sa],.agg [.int .i64 (seen:Int),.int .i64 day],.int .i64 (m:Int)] h (valR (.int .i64 ((houN b.miss b.ghost b.moulds m d seen day:Nat):Int)) h):=by
 have hc:=cx.h94;have os:=hm.out;obtain⟨ma,la,v1,v2,hix⟩:=hm.elem m d hd;have om:=sl_out v1;have ol:=sl_out v2;have ll:=sl_len v2;have k36:=C36 cx.toCxY b sa hm hbk m d hd seen hsn day h;unfold ClR at k36;obtain⟨r,k36,⟨bn,bm⟩,w,hx1,rfl,hB⟩:=k36;have wo:=hB.blt.out;have wl:=hB.blt.len;have wc:=hB.blt.cells;have wt:=hB.blt.tup;rw[wayE_len]at wl;simp only[AV.cells]at wc;simp only[isTuple]at wt;rw[<-way_house hbk hm.max hd];have ok3:=(book_md hbk hm.max hd).1;have hwl:=way_len hbk hm.max hd seen day;have hwm:=fun(k:Nat) (p:Nat×Nat) (h:(waysB b m d seen day)[k]? =some p)=>way_mem h;have hlt64:=fun(k:Nat)=>wayH_lt ok3 ((waysB b m d seen day).take k) 0 (by decide);have hlt64:∀k:Nat,wayH d.loans ((waysB b m d seen day).take k)<64:=fun k=>by
  unfold wayH;exact hlt64 k
 have k86:=fun(s q:Nat) (hs:s<256) (hq:q<8) (h:Heap)=>C86 (c:=c) cx.h86 cx.h81 cx.h133 s q hs hq h;have HX1:=J1 hx1;have h00:wayH d.loans ((waysB b m d seen day).take 0)=0:=by rw[List.take_zero,wayH_nil]
 have H00:=J1 h00;have H64:=J1 hlt64;have HWM:=J1 hwm;have HWL:=J1 hwl;have HB:=J1 hB;have HV2:=J1 v2;have HOK:=J1 ok3;have K86:=J1 k86;have hnx:=fun(k:Nat) (p:Nat×Nat) (x:Ln) (h:(waysB b m d seen day)[k]? =some p) (hx:d.loans[p.2]? =some x)=>wayH_next h hx;have HNX:=J1 hnx;clear hm hd v1 v2 hbk hx1 hB ok3 hwl hwm hlt64 k86 h00 hnx;generalize waysB b m d seen day=ww at *;refine ClR.walk (c:=_) hc Tryz.func94 rfl (by kernel_rfl) rfl valR_fail ?_
 try simp only[entryEnv,Nat.reduceAdd,List.nil_append,List.cons_append,emptyHp]
 repeat' (first|refine goS ?_|refine uJ k36 ?_|(refine go2 ?_ ?_<;>intro hh)|fail)
 refine W.loopH (ww.length) [2,3,8] [3] (fun k e lm=>e.get 9=some (.int .i64 ↑k)/\e.get 7=some (.int .i64 ((wayH d.loans (ww.take k):Nat):Int))) ?_ ?_
 ·skip
  refine⟨?_,?_⟩
  ·simp[go_sem, *]
  ·rw[H00.out];simp[go_sem, *]
 intro k e lm hk0 hce hcl hinv;simp only[keepE,and_true]at hce;obtain⟨c2,c3,c8⟩:=hce;simp only[go_sem, *,Nat.reduceBEq,Nat.reduceEqDiff,reduceIte]at c2 c3 c8;simp only[keepL,and_true]at hcl;have d3:=hcl;clear hcl;simp only[go_sem, *,Nat.reduceBEq,Nat.reduceEqDiff,reduceIte]at d3;obtain⟨h9,h7⟩:=hinv;by_cases hlt:k<ww.length
 ·have hd0:=dT hlt
  have hv_0:=wrap_succ hlt (by have:=HWL.out;unfold maxL;omega);obtain⟨p,hp⟩:=get_some hlt;have hp2:=HWM.out k p hp;obtain⟨x,hx⟩:=get_some hp2;have hix2:=fun H=>lns_idx HV2.out hx H;have hpe:=wayE_at hp;have hne:wayE ww≠[]:=by intro e;rw[e]at hpe;simp at hpe
  obtain⟨id,e1,e2,e3,e4⟩:=HB.out.row hne;rw[wayE_len]at e1;have hri:=row_idx (t:=50) (e:=54) Tryz.underlying50 ty_lay54 e2 (n:=ww.length) hlt;have hxb:=badL_no (HOK.out x (List.mem_of_getElem? hx));have h64:=H64.out k;have hxn:((x.house.toNat:Nat):Int)=x.house:=by omega
  have k86:=K86.out (wayH d.loans (ww.take k)) x.house.toNat (by omega) (by omega);rw[hxn]at k86;have hnx:=HNX.out k p x hp hx;have HN1:=J1 hnx;have HLT0:=J1 hlt;simp only[hp_get]at e2;clear hp hp2 hx hxb h64 hnx hlt hne e3 e4 hxn;subst e1;repeat' (first|(apply W.drawQ (id:=6) (l1:=[0,1,2,3,4,5,6,7,8,9,10,11,12,13,14,15,16]) (l2:=[]);kernel_rfl;kernel_rfl;kernel_rfl;exact Z4)|refine go1 ?_|refine uJ (k86 _) ?_|(refine go2 ?_ ?_<;>intro hh)|fail)
  all_goals refine contH_mk J9 J7 J8 ?_
  all_goals refine⟨?_,?_⟩
  all_goals first|exact Z2|skip
  all_goals (rw[HN1.out];simp only[go_sem, *,Nat.reduceLT,Int.reduceEq,Int.reduceBEq,Int.reduceLE,Int.reduceLT,Nat.reduceAdd,Nat.reduceBEq,Nat.reduceEqDiff,reduceIte,Nat.reduceLeDiff,Nat.reduceMul,Nat.reduceSub,reduceCtorEq])
 ·have hd0:=dF hlt
  obtain rfl:k=ww.length:=by omega
  rw[List.take_length]at h7;repeat' (first|refine goS ?_|(refine go2 ?_ ?_<;>intro hh)|fail)
  all_goals (simp only[rV Tryz.func94,Tryz.results94];first|exact J5|refine J6 ?_)
  exact⟨_,rfl,HX1.out⟩
theorem C34(cx:CxZ c)(hc:c 34=none)(b:Bk)(sa:AV)(hm:MdsV sa b.moulds)(hbk:bookB b=true)(seen:Nat)(hsn:seen<256)(day:Int)(h:Heap) :
    ClR (dX c) 34 [.agg [.int .i64 b.miss,.int .i64 b.ghost,sa],.agg [.int .i64 (seen:Int),.int .i64 day]] h (rowR (natsE (couldN b seen day b.moulds.length)) h):=by
  have os:=hm.out;have hlen:=hm.len;have k36:=fun(m:Nat) (d:Md) (hd:b.moulds[m]? =some d) (h:Heap)=>C36 cx.toCxY b sa hm hbk m d hd seen hsn day h;have K36:=J1 k36;have HML:=J1 hm.max;have h00:natsE (couldN b seen day 0)=[]:=by rw[couldN_zero];unfold natsE;rfl
  have H00:=J1 h00;have hwb:=fun(m:Nat) (d:Md) (hd:b.moulds[m]? =some d)=>(way_bet hbk hm.max hd seen day).1;have HWB:=J1 hwb;clear hm hbk k36 h00 hwb;refine ClR.walk (c:=_) hc Tryz.func34 rfl (by kernel_rfl) rfl rowR_fail ?_
  try simp only[entryEnv,Nat.reduceAdd,List.nil_append,List.cons_append,emptyHp]
  repeat' (first|refine goS ?_|(refine go2 ?_ ?_<;>intro hh)|fail)
  refine W.loopV (b.moulds.length) [2,3] [2,3] (fun k e lm hp=>∃u,e.get 6=some (.int .i64 ↑k)/\e.get 5=some (u)/\BltN h.next hp u 1 (natsE (couldN b seen day k))/\HExt h hp) ?_ ?_
  · skip
    refine⟨.nilslice,?_,?_,?_,HExt.refl _⟩
    · simp[go_sem, *]
    · simp[go_sem, *]
    · rw[H00.out];exact BltN.nil
  intro k e lm hp hk0 hce hcl hinv;simp only[keepE,and_true]at hce;obtain⟨c2,c3⟩:=hce;simp only[go_sem, *,Nat.reduceBEq,Nat.reduceEqDiff,reduceIte]at c2 c3;simp only[keepL,and_true]at hcl;obtain⟨d2,d3⟩:=hcl;simp only[go_sem, *,Nat.reduceBEq,Nat.reduceEqDiff,reduceIte]at d2 d3;obtain⟨u,h6,h5,hB,hX⟩:=hinv;by_cases hlt:k<b.moulds.length
  · have hd0 := dT hlt
    have hv_0:=wrap_succ hlt HML.out;obtain⟨d,hd⟩:=get_some hlt;have k36:=K36.out k d hd hp;unfold ClR at k36;obtain⟨r,k36,hz,w,hxz,rfl,hW⟩:=k36;have wo:=hW.blt.out;have wl:=hW.blt.len;have wc:=hW.blt.cells;have wt:=hW.blt.tup;rw[wayE_len]at wl;simp only[AV.cells]at wc;simp only[isTuple]at wt;have hB:=hB.keep hxz;have hX:=hX.trans hxz;have hbo1:=hB.blt.out;have hll:(natsE (couldN b seen day k)).length+1 <=most:=by
      rw[natsE_len];have:=couldN_len b seen day k;have:=HML.out;unfold most;unfold maxL at this;omega
    have hcn:=couldN_next (b:=b) (seen:=seen) (day:=day) hd;have hwb:=HWB.out k d hd;have HCN:=J1 hcn;have HLT0:=J1 hlt;clear hW hxz hd hcn hlt;generalize betW b.miss b.ghost b.moulds k d seen day=B at *;cases hw0:waysB b k d seen day with
    | nil =>
      rw[hw0]at wl;have wl:lenS w=some 0:=wl;have z0:decide (((0:Nat):Int)>0)=false:=rfl;have hcn:=HCN.out;rw[if_neg (by have:=hwb.1 hw0;omega)]at hcn;have HCN:=J1 hcn;have HB:=J1 hB;have HX:=J1 hX;clear hcn hwb hw0 hB hX;repeat' (first|refine goS ?_|refine uJ k36 ?_|(refine go2 ?_ ?_<;>intro hh)|fail)
      all_goals refine contV_mk J9 J7 J8 ?_
      all_goals refine⟨u,?_,?_,?_,HX.out⟩
      all_goals first|exact Z2|skip
      · rw[HCN.out];exact HB.out
    | cons p r =>
      rw[hw0]at wl;have hgt:decide ((((p::r).length:Nat):Int)>0)=true:=by simp only[decide_eq_true_eq,List.length_cons];omega
      generalize (p::r).length=N at *;have hcn:=HCN.out
      rw [if_pos (by have : B.1 ≠ 0 := fun e => by have := hwb.2 e; rw [hw0] at this; cases this
                     omega)]at hcn
      have HCN:=J1 hcn;clear hcn hwb hw0;repeat' (first|(apply WO1.appendN (t:=36) (u:=36) (e:=3) (e':=3) (sz:=1) (tl:=[]) (hb:=hB) (hx:=HExt.pair hX);exact Z1;exact rfl;exact Z2;exact Z2;exact Z2;(focus (exact ty_row36));exact Z1;(focus (intro v hv;simp at hv;subst hv;first|rfl|exact hsc));(focus (simp only[List.length_map,List.length_cons,List.length_nil];exact hll));(focus (simp));(intro v' h' hB' ho' hX';have hcc':=hB'.blt.cells;have htt':=hB'.blt.tup;simp only[AV.cells]at hcc';simp only[isTuple]at htt';simp only[pM,pN]))|refine go1 ?_|refine uJ k36 ?_|(refine go2 ?_ ?_<;>intro hh)|fail)
      all_goals refine contV_mk J9 J7 J8 ?_
      all_goals refine⟨v',?_,?_,?_,hX'⟩
      all_goals first|exact Z2|skip
      · rw[HCN.out,natsE_app];exact hB'
  · have hd0 := dF hlt
    obtain rfl:k=b.moulds.length:=by omega
    have hbo1:=hB.blt.out;have HX:=J1 hX;have HB:=J1 hB;clear hB hX;repeat' (first|refine goS ?_|(refine go2 ?_ ?_<;>intro hh)|fail)
    all_goals (simp only[rV Tryz.func34,Tryz.results34];first|exact J5|refine J6 ?_)
    exact⟨_,_,HX.out,rfl,HB.out⟩
theorem C35(cx:CxZ c)(hc:c 35=none)(b:Bk)(sa:AV)(hm:MdsV sa b.moulds)(hbk:bookB b=true)(seen:Nat)(hsn:seen<256)(day:Int)(h:Heap) :
  ClR (dX c) 35 [.agg [.int .i64 b.miss,.int .i64 b.ghost,sa],.agg [.int .i64 (seen:Int),.int .i64 day]] h (rowR (natsE (lisN (whoN b seen day b.moulds.length) 6)) h):=by
 have os:=hm.out;have hlen:=hm.len;have k94:=fun(m:Nat) (d:Md) (hd:b.moulds[m]? =some d) (h:Heap)=>C94 cx b sa hm hbk m d hd seen hsn day h;have K94:=J1 k94;have k87:=fun(s:Nat) (hs:s<256) (h:Heap)=>C87 (c:=c) cx.h87 cx.h133 s hs h;have K87:=J1 k87;have k86:=fun(s q:Nat) (hs:s<256) (hq:q<8) (h:Heap)=>C86 (c:=c) cx.h86 cx.h81 cx.h133 s q hs hq h;have K86:=J1 k86;have HML:=J1 hm.max;have HWZ:=J1 (whoN_zero b seen day);have h64:=fun(k:Nat)=>whoN_lt hm hbk seen day k;have H64:=J1 h64;have hho:=fun(k:Nat) (d:Md) (hd:b.moulds[k]? =some d)=>houN_lt b.miss b.ghost b.moulds k seen day (book_md hbk hm.max hd).1;have HHO:=J1 hho;clear hm hbk k94 k87 k86 h64 hho;refine ClR.walk (c:=_) hc Tryz.func35 rfl (by kernel_rfl) rfl rowR_fail ?_
 try simp only[entryEnv,Nat.reduceAdd,List.nil_append,List.cons_append,emptyHp]
 repeat' (first|refine goS ?_|(refine go2 ?_ ?_<;>intro hh)|fail)
 refine W.loopV (b.moulds.length) [2,3] [2,3] (fun k e lm hp=>e.get 6=some (.int .i64 ↑k)/\e.get 5=some (.int .i64 ((whoN b seen day k:Nat):Int))/\HExt h hp) ?_ ?_
 ·skip
  refine⟨?_,?_,HExt.refl _⟩
  ·simp[go_sem, *]
  ·rw[HWZ.out];simp[go_sem, *]
 intro k e lm hp hk0 hce hcl hinv;simp only[keepE,and_true]at hce;obtain⟨c2,c3⟩:=hce;simp only[go_sem, *,Nat.reduceBEq,Nat.reduceEqDiff,reduceIte]at c2 c3;simp only[keepL,and_true]at hcl;obtain⟨d2,d3⟩:=hcl;simp only[go_sem, *,Nat.reduceBEq,Nat.reduceEqDiff,reduceIte]at d2 d3;obtain⟨h6,h5,hX⟩:=hinv;by_cases hlt:k<b.moulds.length
 ·have hd0:=dT hlt
  have hv_0:=wrap_succ hlt HML.out;obtain⟨d,hd⟩:=get_some hlt;have k94:=K94.out k d hd hp;unfold ClR at k94;obtain⟨r,k94,hz,rfl,hxz⟩:=k94;have hh:=HHO.out k d hd;have k87:=K87.out (houN b.miss b.ghost b.moulds k d seen day) (by omega) hz;unfold ClR at k87;obtain⟨r,k87,⟨wn,wm⟩,w,hxw,rfl,hW⟩:=k87;have HX:=J1 ((hX.trans hxz).trans hxw);have wo:=hW.blt.out;have wl:=hW.blt.len;have wc:=hW.blt.cells;have wt:=hW.blt.tup;rw[natsE_len]at wl;simp only[AV.cells]at wc;simp only[isTuple]at wt;have hwn:=whoN_next (b:=b) (seen:=seen) (day:=day) hd;rw[<-oqL_lis hh]at hwn;have HWN:=J1 hwn;have HW:=J1 hW;have h64:=H64.out k;have HLT0:=J1 hlt;have hll:=lisN_len (houN b.miss b.ghost b.moulds k d seen day) 6;have hml:∀q∈lisN (houN b.miss b.ghost b.moulds k d seen day) 6,q<6:=fun q hq=>mem_lis hq;have HLL:=J1 hll;have HMB:=J1 hml;have HW6:=J1 h64;clear hX hxz hxw hW hwn hlt hd hll hml hh;generalize lisN (houN b.miss b.ghost b.moulds k d seen day) 6=L at *;generalize houN b.miss b.ghost b.moulds k d seen day=H at *;have ho0:oqL (whoN b seen day k) (L.take 0)=whoN b seen day k:=by rw[List.take_zero,oqL_nil]
  have HO0:=J1 ho0;clear ho0 h64;repeat' (first|refine goS ?_|refine uJ k94 ?_|refine uJ k87 ?_|(refine go2 ?_ ?_<;>intro hh)|fail)
  refine W.loopH (L.length) [2,3,6,7] [2,3] (fun j e1 lm1=>e1.get 8=some (.int .i64 ↑j)/\e1.get 5=some (.int .i64 ((oqL (whoN b seen day k) (L.take j):Nat):Int))) ?_ ?_
  ·skip
   refine⟨?_,?_⟩
   ·simp[go_sem, *]
   ·rw[HO0.out];simp[go_sem, *]
  intro j e1 lm1 hk1 hce hcl hinv;simp only[keepE,and_true]at hce;obtain⟨c2,c3,c6,c7⟩:=hce;simp only[go_sem, *,Nat.reduceBEq,Nat.reduceEqDiff,reduceIte]at c2 c3 c6 c7;simp only[keepL,and_true]at hcl;obtain⟨d2,d3⟩:=hcl;simp only[go_sem, *,Nat.reduceBEq,Nat.reduceEqDiff,reduceIte]at d2 d3;obtain⟨h8,h5⟩:=hinv;by_cases hjt:j<L.length
  ·have hd1:=dT hjt
   have hv_1:=wrap_succ hjt (by have:=HLL.out;unfold maxL;omega);obtain⟨q,hq⟩:=get_some hjt;obtain⟨id,e1,e2,e3,e4⟩:=bltN_at HW.out (nats_at hq);rw[natsE_len]at e1;have hri:=rw_idx e2 (nats_at hq);rw[natsE_len]at hri;have hat:=nats_at hq;have hnx:=oqL_next (whoN b seen day k) hq;have h64:=oqL_lt (a:=whoN b seen day k) (l:=L.take j) HW6.out (fun q hq=>HMB.out q (List.mem_of_mem_take hq));have hq6:=HMB.out q (List.mem_of_getElem? hq);have k86:=K86.out (oqL (whoN b seen day k) (L.take j)) q (by omega) (by omega);have HN1:=J1 hnx;have HLT1:=J1 hjt;simp only[hp_get]at e2;subst e1;clear hq hnx h64 hq6 hjt e3 e4;repeat' (first|refine goS ?_|refine uJ (k86 _) ?_|(refine go2 ?_ ?_<;>intro hh)|fail)
   all_goals refine contH_mk (by first|assumption|exact HLT1.out|exact HLT0.out) J7 J8 ?_
   all_goals refine⟨?_,?_⟩
   all_goals first|exact Z2|skip
   all_goals (rw[HN1.out];simp only[go_sem, *,Nat.reduceLT,Int.reduceEq,Int.reduceBEq,Int.reduceLE,Int.reduceLT,Nat.reduceAdd,Nat.reduceBEq,Nat.reduceEqDiff,reduceIte,Nat.reduceLeDiff,Nat.reduceMul,Nat.reduceSub,reduceCtorEq])
  ·have hd1:=dF hjt
   obtain rfl:j=L.length:=by omega
   have hto:oqL (whoN b seen day k) (L.take L.length)=whoN b seen day (k+1):=by rw[List.take_length];exact HWN.out.symm
   rw[hto]at h5;clear hto;repeat' (first|refine goS ?_|(refine go2 ?_ ?_<;>intro hh)|fail)
   all_goals refine contV_mk J9 J7 J8 ?_
   all_goals refine⟨?_,?_,HX.out⟩
   all_goals first|exact Z2|skip
 ·have hd0:=dF hlt
  obtain rfl:k=b.moulds.length:=by omega
  have h64:=H64.out b.moulds.length;have k87:=K87.out (whoN b seen day b.moulds.length) (by omega) hp;unfold ClR at k87;obtain⟨r,k87,hz,w,hxw,rfl,hW⟩:=k87;have wo:=hW.blt.out;have HW:=J1 (hW.base hX.1);have HX:=J1 (hX.trans hxw);clear hW hX hxw h64;repeat' (first|refine goS ?_|refine uJ k87 ?_|(refine go2 ?_ ?_<;>intro hh)|fail)
  all_goals (simp only[rV Tryz.func35,Tryz.results35];first|exact J5|refine J6 ?_)
  exact⟨_,_,HX.out,rfl,HW.out⟩
end
end
section
attribute [local irreducible] natsE lisN bookB allDays shortB numB inB findB couldN whoN betW waysB wayE houN
theorem ends_at{l:List (Nat×Nat)}{B:Nat×Nat}(h:endsW l=B)(hl:l≠[]):∃p q,l[0]? =some p/\l[l.length - 1]? =some q/\p.1=B.1/\q.1=B.2:=by
 subst h;cases l with
 |nil=>exact absurd rfl hl
 | cons p r =>
  refine⟨p,(p::r).getLast hl,rfl,?_,rfl,?_⟩
  ·rw[<-List.getLast?_eq_getElem?,List.getLast?_eq_some_getLast hl]
  ·unfold endsW
   rw[List.getLast?_eq_some_getLast hl];rfl
theorem sp_eql(a b:Int):binV Tryz.prog .eql 45 false (.agg [.int .i64 a,.int .i64 b]) (.agg [.int .i64 a,.int .i64 b])=some (.bool true):=by
 have hst:Tryz.prog.stoodInHeld 45=false:=by kernel_rfl
 have e3:∀x:Int,eqT Tryz.prog 7 3 (.int .i64 x) (.int .i64 x)=some true:=fun x=>by rw[eqT.eq_def];simp only[Tryz.underlying3,if_true,beq_self_eq_true]
 have h:eqT Tryz.prog 8 45 (.agg [.int .i64 a,.int .i64 b]) (.agg [.int .i64 a,.int .i64 b])=some true:=by
  rw[eqT.eq_def];simp only[Tryz.underlying45,hst,Bool.false_eq_true,if_false];generalize eqT Tryz.prog 7=f at *;simp[eqFields,readT,readAt,ty_lay3,e3]
 have hgd:Tryz.prog.eqGuardType Tryz.prog.depth 45=false:=by kernel_rfl
 simp only[binV,eqOp,eqV,eqDepth,h,hgd,Bool.false_eq_true,if_false]
section
variable{c:Itr}
theorem C37(hc:c 37=none)(x y:Int)(h:Heap):Cl (dX c) 37 [.int .i64 x,.int .i64 y] h (.ret (.agg [.int .i64 x,.int .i64 y]) h none):=by
 refine ClR.cl ?_;refine ClR.walk (c:=_) hc Tryz.func37 rfl (by kernel_rfl) rfl (fun e=>by cases e) ?_
 try simp only[entryEnv,Nat.reduceAdd,List.nil_append,List.cons_append,emptyHp]
 repeat' (first|refine goS ?_|(refine go2 ?_ ?_<;>intro hh)|fail)
 all_goals (simp only[rV Tryz.func37,Tryz.results37];first|exact J5|refine J6 ?_)
 all_goals rfl
end
noncomputable def c5:Itr
 |21=>some (pureFn sp21)
 |48=>some (pureFn sp48)
 |24=>some (pureFn sp24)
 |29=>some (flatFn sp29)
 |30=>some (newQ sp30)
 |31=>some (pureFn sp31)
 |32=>some (newQ sp32)
 |33=>some (pureFn sp33)
 |81=>some (pureFn sp81)
 |133=>some (pureFn sp133)
 |_=>none
theorem c5_sound:Sound (dX c5):=dX_sound (fun f g h=>by
 unfold c5 at h;split at h
 ·cases h;exact F21
 ·cases h;exact F48
 ·cases h;exact F24
 ·cases h;exact F29
 ·cases h;exact F30
 ·cases h;exact f31
 ·cases h;exact F32
 ·cases h;exact F33
 ·cases h;exact F81
 ·cases h;exact F133
 ·cases h)
theorem c5_Z:CxZ c5:={ h42:=rfl,h105:=rfl,h106:=rfl,h109:=rfl,h144:=rfl,h36:=rfl,h85:=rfl,h95:=rfl,h133:=rfl,h86:=rfl,h87:=rfl,h94:=rfl,h81:=rfl }
theorem T5(sa:AV)(b:Bk)(A D m:Int)(v:MdsI sa b.moulds):ClR (dX c5) 5 [.agg [.int .i64 b.miss,.int .i64 b.ghost,sa],.agg [.int .i64 A,.int .i64 D],.int .i64 m] emptyHp (isRet (.bool true)):=by
 have os:=v.out;have k21:∀h,Cl (dX c5) 21 [] h (.ret (.bool true) h none):=fun h=>K21 rfl h;have k20:=fun h=>C20I (c:=c5) rfl b sa v h;have k33:=fun h=>K33 (X:=dX c5) rfl A D h;have q0:((0:Int)==0)=true:=rfl;have z0:((((0:Nat):Int))==0)=true:=rfl;have z1:((((0:Nat):Int)) !=0)=false:=rfl;have n0:((0:Int) !=0)=false:=rfl;have n2:((2:Int) !=0)=true:=rfl;have q5:((5:Int)==5)=true:=rfl;have s00:=sp_eql 0 0;cases gs:shortB b with
 |false=>
  rw[gs]at k20;clear v gs k33;refine ClR.walk (c:=_) rfl Tryz.func5 rfl (by kernel_rfl) rfl isRet_fail ?_
  try simp only[entryEnv,Nat.reduceAdd,List.nil_append,List.cons_append,emptyHp]
  repeat' (first|refine goS ?_|refine uJ (k20 _) ?_|refine uJ (k21 _) ?_|(refine go2 ?_ ?_<;>intro hh)|fail)
  all_goals (simp only[rV Tryz.func5,Tryz.results5];first|exact J5|refine J6 ?_)
 | true =>
  have hb:=short_bk v gs;rw[gs]at k20;obtain⟨sa',e,hm⟩:=bk_is hb;have e:=AV.agg.inj e;simp only[List.cons.injEq,and_true,true_and]at e;subst e;have k24:=fun h=>K24 (X:=dX c5) rfl hb m h;have k30:=fun h=>K30 (X:=dX c5) rfl hb A D h;have k31:=fun h=>K31 (X:=dX c5) rfl hb A D m h;have k32:=fun h=>K32 (X:=dX c5) rfl hb A D h;have k23:=fun is h=>C23 (c:=c5) rfl rfl rfl rfl hb hm is h;have k37:=fun x y h=>C37 (c:=c5) rfl x y h;cases hf:findB A D with
  |false=>
   have e1:couldV b A D= .tuple [.nilslice,.int .i64 2]:=by unfold couldV;rw[hf];simp
   have e2:whoV b A D= .tuple [.nilslice,.int .i64 2]:=by unfold whoV;rw[hf];simp
   have e3:betV b A D m= .tuple [.agg [.int .i64 0,.int .i64 0],.int .i64 2]:=by unfold betV;rw[hf];simp
   have e4:askI b false=2:=by unfold askI;simp
   have k23:=k23 false;have q2:((2:Int)==2)=true:=rfl;have n22:((2:Int) !=2)=false:=rfl;rw[hf]at k33;rw[e4]at k23;rw[e1]at k30;rw[e2]at k32;rw[e3]at k31;clear v gs hb hm hf e1 e2 e3 e4 k37;refine ClR.walk (c:=_) rfl Tryz.func5 rfl (by kernel_rfl) rfl isRet_fail ?_
   try simp only[entryEnv,Nat.reduceAdd,List.nil_append,List.cons_append,emptyHp]
   repeat' (first|(apply W.drawQ (id:=6) (l1:=[0,1,2,3,4]) (l2:=[]);kernel_rfl;kernel_rfl;kernel_rfl;exact Z4)|(apply W.drawQ (id:=12) (l1:=[0,1,2,3,4,5,6,7,8,9]) (l2:=[]);kernel_rfl;kernel_rfl;kernel_rfl;exact Z4)|(apply W.drawQ (id:=18) (l1:=[0,1,2,3,4,5,6,7,8,9,10,11,12,13,14,15,16,17,18,19,20,21]) (l2:=[]);kernel_rfl;kernel_rfl;kernel_rfl;exact Z4)|refine gJ ?_|refine go1 ?_|refine uJ (k20 _) ?_|refine uJ (k21 _) ?_|refine uJ (k23 _) ?_|refine uJ (k30 _) ?_|refine uJ (k31 _) ?_|refine uJ (k32 _) ?_|refine uJ (k33 _) ?_|(refine go2 ?_ ?_<;>intro hh)|fail)
   all_goals (simp only[rV Tryz.func5,Tryz.results5];first|exact J5|refine J6 ?_)
  | true =>
   rw[hf]at k33;have k23b:=k23 (numB b.moulds m);have k23:=k23 true;cases hok:(bookB b&&allDays b.moulds)with
   | false =>
    obtain⟨e0,e1,a1,a2,a3,a4,a5,a6,a7⟩:∃e0 e1:Int,couldV b A D= .tuple [.nilslice,.int .i64 e0]/\whoV b A D= .tuple [.nilslice,.int .i64 e0]/\betV b A D m= .tuple [.agg [.int .i64 0,.int .i64 0],.int .i64 e1]/\askI b true=e0/\askI b (numB b.moulds m)=e1/\(e0 !=0)=true/\(e1 !=0)=true:=by
     unfold couldV whoV betV askI;rw[hf];cases h1:bookB b with
     |false=>exact⟨2,2,by simp,by simp,by simp,by simp,by simp,rfl,rfl⟩
     |true=>
      have h2:allDays b.moulds=false:=by rw[h1,Bool.true_and]at hok;exact hok
      rw[h2];cases h3:numB b.moulds m with
      |false=>exact⟨7,2,by simp,by simp,by simp,by simp,by simp,rfl,rfl⟩
      |true=>exact⟨7,7,by simp,by simp,by simp,by simp,by simp,rfl,rfl⟩
    have r0:(e0 !=e0)=false:=by simp
    have r1:(e1==e1)=true:=by simp
    rw[a1]at k30;rw[a2]at k32;rw[a3]at k31;rw[a4]at k23;rw[a5]at k23b;generalize numB b.moulds m=nb at *;clear v gs hb hm hf hok a1 a2 a3 a4 a5 k37;refine ClR.walk (c:=_) rfl Tryz.func5 rfl (by kernel_rfl) rfl isRet_fail ?_
    try simp only[entryEnv,Nat.reduceAdd,List.nil_append,List.cons_append,emptyHp]
    repeat' (first|(apply W.drawQ (id:=6) (l1:=[0,1,2,3,4]) (l2:=[]);kernel_rfl;kernel_rfl;kernel_rfl;exact Z4)|(apply W.drawQ (id:=12) (l1:=[0,1,2,3,4,5,6,7,8,9]) (l2:=[]);kernel_rfl;kernel_rfl;kernel_rfl;exact Z4)|(apply W.drawQ (id:=18) (l1:=[0,1,2,3,4,5,6,7,8,9,10,11,12,13,14,15,16,17,18,19,20,21]) (l2:=[]);kernel_rfl;kernel_rfl;kernel_rfl;exact Z4)|refine gJ ?_|refine go1 ?_|refine uJ (k20 _) ?_|refine uJ (k21 _) ?_|refine uJ (k23 _) ?_|refine uJ (k23b _) ?_|refine uJ (k24 _) ?_|refine uJ (k30 _) ?_|refine uJ (k31 _) ?_|refine uJ (k32 _) ?_|refine uJ (k33 _) ?_|(refine go2 ?_ ?_<;>intro hh)|fail)
    all_goals (simp only[rV Tryz.func5,Tryz.results5];first|exact J5|refine J6 ?_)
   | true =>
    rw[Bool.and_eq_true]at hok;obtain⟨hbk,had⟩:=hok;have e2:askI b true=0:=by unfold askI;rw[hbk,had];simp
    rw[e2]at k23;have hfd:=hf;unfold findB inB at hfd;simp only[Bool.and_eq_true,decide_eq_true_eq]at hfd;obtain⟨w,rfl⟩:∃w:Nat,A=(w:Int):=⟨A.toNat,by omega⟩;have hw:w<256:=by omega
    have e1:couldV b (w:Int) D= .tuple [slN (natsE (couldN b w D b.moulds.length)),.int .i64 0]:=by unfold couldV;rw[hbk,hf,had,Int.toNat_natCast];simp
    have hwl:=whoN_lt hm hbk w D b.moulds.length;have e3:whoV b (w:Int) D= .tuple [slN (natsE (lisN (whoN b w D b.moulds.length) 6)),.int .i64 0]:=by unfold whoV;rw[hbk,hf,had,Int.toNat_natCast,lis63 hwl];simp
    rw[e1]at k30;rw[e3]at k32;have hcl:=couldN_len b w D b.moulds.length;have hmx:=hm.max;have hll:=lisN_len (whoN b w D b.moulds.length) 6;have hs1:slV intC (slN (natsE (couldN b w D b.moulds.length)))=some (intsN (couldN b w D b.moulds.length)):=nats_sl (by omega);have hs2:slV intC (slN (natsE (lisN (whoN b w D b.moulds.length) 6)))=some (intsN (lisN (whoN b w D b.moulds.length) 6)):=nats_sl (by unfold maxL;omega);have c34:=fun h=>C34 (c:=c5) c5_Z rfl b sa hm hbk w hw D h;have c35:=fun h=>C35 (c:=c5) c5_Z rfl b sa hm hbk w hw D h;have k34:=c34 emptyHp;unfold ClR at k34;obtain⟨r,k34,⟨bn,bm⟩,x1,hx1,rfl,hB1⟩:=k34;have k29a:=K29 (X:=dX c5) rfl (SeeV.of hs1 ⟨bn,bm⟩) (see_nats hB1.blt (by omega));have k35:=c35 ⟨bn,bm⟩;unfold ClR at k35;obtain⟨r,k35,⟨dn,dm⟩,x2,hx2,rfl,hB2⟩:=k35;have k29b:=K29 (X:=dX c5) rfl (SeeV.of hs2 ⟨dn,dm⟩) (see_nats hB2.blt (by unfold maxL;omega));have d1:decide (intsN (couldN b w D b.moulds.length)=intsN (couldN b w D b.moulds.length))=true:=by simp
    have d2:decide (intsN (lisN (whoN b w D b.moulds.length) 6)=intsN (lisN (whoN b w D b.moulds.length) 6))=true:=by simp
    rw[d1]at k29a;rw[d2]at k29b;have l1:=sl_out hs1;have l2:=sl_out hs2;have l3:=(slV_is hs1).1.cells;have l4:=(slV_is hs2).1.cells;have l5:=(slV_is hs1).1.tup;have l6:=(slV_is hs2).1.tup;have p1:=hB1.blt.out;have p2:=hB2.blt.out;have p3:=hB1.blt.cells;have p4:=hB2.blt.cells;have p5:=hB1.blt.tup;have p6:=hB2.blt.tup;simp only[AV.cells]at l3 l4 p3 p4;simp only[isTuple]at l5 l6 p5 p6;cases hn:numB b.moulds m with
    |false=>
     have e4:askI b false=2:=by unfold askI;simp
     have e5:betV b (w:Int) D m= .tuple [.agg [.int .i64 0,.int .i64 0],.int .i64 2]:=by unfold betV;rw[hn];simp
     have q2:((2:Int)==2)=true:=rfl;rw[hn,e4]at k23b;rw[hn]at k24;rw[e5]at k31;clear v gs hb hm hf hfd e1 e2 e3 e4 e5 k37 hbk had hn hwl hcl hmx hll hs1 hs2 c34 c35 hx1 hB1 hx2 hB2 d1 d2 hw;generalize slN (natsE (couldN b w D b.moulds.length))=L1 at *;generalize slN (natsE (lisN (whoN b w D b.moulds.length) 6))=L2 at *;refine ClR.walk (c:=_) rfl Tryz.func5 rfl (by kernel_rfl) rfl isRet_fail ?_
     try simp only[entryEnv,Nat.reduceAdd,List.nil_append,List.cons_append,emptyHp]
     repeat' (first|(apply W.drawQ (id:=6) (l1:=[0,1,2,3,4]) (l2:=[]);kernel_rfl;kernel_rfl;kernel_rfl;exact Z4)|(apply W.drawQ (id:=12) (l1:=[0,1,2,3,4,5,6,7,8,9]) (l2:=[]);kernel_rfl;kernel_rfl;kernel_rfl;exact Z4)|(apply W.drawQ (id:=18) (l1:=[0,1,2,3,4,5,6,7,8,9,10,11,12,13,14,15,16,17,18,19,20,21]) (l2:=[]);kernel_rfl;kernel_rfl;kernel_rfl;exact Z4)|refine go1 ?_|refine uJ (k20 _) ?_|refine uJ (k21 _) ?_|refine uJ (k23 _) ?_|refine uJ (k23b _) ?_|refine uJ (k24 _) ?_|refine uJ k29a ?_|refine uJ k29b ?_|refine uJ (k30 _) ?_|refine uJ (k31 _) ?_|refine uJ (k32 _) ?_|refine uJ (k33 _) ?_|refine uJ k34 ?_|refine uJ k35 ?_|(refine go2 ?_ ?_<;>intro hh)|fail)
     all_goals (simp only[rV Tryz.func5,Tryz.results5];first|exact J5|refine J6 ?_)
    | true =>
     rw[hn]at k24;have e4:askI b true=0:=e2;rw[hn,e4]at k23b;obtain⟨n,d,rfl,hd⟩:=num_at hn;have k36:=C36 (c:=c5) c5_Z.toCxY b sa hm hbk n d hd w hw D ⟨dn,dm⟩;unfold ClR at k36;obtain⟨r,k36,⟨en,em⟩,x3,hx3,rfl,hB3⟩:=k36;have hwb:=way_bet hbk hm.max hd w D;have wl:=hB3.blt.len;rw[wayE_len]at wl;have p7:=hB3.blt.out;have p8:=hB3.blt.cells;have p9:=hB3.blt.tup;simp only[AV.cells]at p8;simp only[isTuple]at p9;cases hW:waysB b n d w D with
     | nil =>
      have e5:betV b (w:Int) D (n:Int)= .tuple [.agg [.int .i64 0,.int .i64 0],.int .i64 5]:=by
       unfold betV;rw[hn,hf,hbk,had,mdAt_is hd,Int.toNat_natCast,Int.toNat_natCast,hwb.1.1 hW];simp
      rw[hW]at wl;have wl:lenS x3=some 0:=wl;rw[e5]at k31;clear v gs hb hm hf hfd e1 e2 e3 e4 e5 k37 hbk had hn hwl hcl hmx hll hs1 hs2 c34 c35 hx1 hB1 hx2 hB2 d1 d2 hw hx3 hB3 hwb hW hd;generalize slN (natsE (couldN b w D b.moulds.length))=L1 at *;generalize slN (natsE (lisN (whoN b w D b.moulds.length) 6))=L2 at *;refine ClR.walk (c:=_) rfl Tryz.func5 rfl (by kernel_rfl) rfl isRet_fail ?_
      try simp only[entryEnv,Nat.reduceAdd,List.nil_append,List.cons_append,emptyHp]
      repeat' (first|(apply W.drawQ (id:=6) (l1:=[0,1,2,3,4]) (l2:=[]);kernel_rfl;kernel_rfl;kernel_rfl;exact Z4)|(apply W.drawQ (id:=12) (l1:=[0,1,2,3,4,5,6,7,8,9]) (l2:=[]);kernel_rfl;kernel_rfl;kernel_rfl;exact Z4)|(apply W.drawQ (id:=18) (l1:=[0,1,2,3,4,5,6,7,8,9,10,11,12,13,14,15,16,17,18,19,20,21]) (l2:=[]);kernel_rfl;kernel_rfl;kernel_rfl;exact Z4)|refine go1 ?_|refine uJ (k20 _) ?_|refine uJ (k21 _) ?_|refine uJ (k23 _) ?_|refine uJ (k23b _) ?_|refine uJ (k24 _) ?_|refine uJ k29a ?_|refine uJ k29b ?_|refine uJ (k30 _) ?_|refine uJ (k31 _) ?_|refine uJ (k32 _) ?_|refine uJ (k33 _) ?_|refine uJ k34 ?_|refine uJ k35 ?_|refine uJ k36 ?_|(refine go2 ?_ ?_<;>intro hh)|fail)
      all_goals (simp only[rV Tryz.func5,Tryz.results5];first|exact J5|refine J6 ?_)
     | cons p0 r0 =>
      have hne:waysB b n d w D≠[]:=by rw[hW];simp
      obtain⟨p,q,hp,hq,hp1,hq1⟩:=ends_at hwb.2 hne;have hpos:((betW b.miss b.ghost b.moulds n d w D).1:Int)>0:=by
       have:(betW b.miss b.ghost b.moulds n d w D).1≠0:=fun e=>hne (hwb.1.2 e);omega
      have e5:betV b (w:Int) D (n:Int)= .tuple [.agg [.int .i64 (p.1:Int),.int .i64 (q.1:Int)],.int .i64 0]:=by
       unfold betV;rw[hn,hf,hbk,had,mdAt_is hd,Int.toNat_natCast,Int.toNat_natCast,if_pos (by rfl),if_pos (by rfl),if_pos hpos,hp1,hq1]
      rw[e5]at k31;have hl0:0<(waysB b n d w D).length:=by rw[hW];simp
      have hl108:=way_len hbk hm.max hd w D;have hpe:=wayE_at hp;have hqe:=wayE_at hq;have hne2:wayE (waysB b n d w D)≠[]:=by intro e;rw[e]at hpe;simp at hpe
      obtain⟨id,i1,i2,i3,i4⟩:=hB3.row hne2;rw[wayE_len]at i1;have ri1:indexAddrV Tryz.prog ⟨en,em⟩ 50 (.row id 0 (waysB b n d w D).length) (.int .i64 0)=some (.eptr id 2 0 0):=row_idx (t:=50) (e:=54) Tryz.underlying50 ty_lay54 i2 (n:=(waysB b n d w D).length) hl0;have ri2:=row_idx (t:=50) (e:=54) Tryz.underlying50 ty_lay54 i2 (n:=(waysB b n d w D).length) (k:=(waysB b n d w D).length - 1) (by omega);have ww:IntKind.i64.wrap (((waysB b n d w D).length:Int) - 1)=(((waysB b n d w D).length - 1:Nat):Int):=by
       rw[wrap_small (by omega) (by omega)];omega
      have wz:((((waysB b n d w D).length:Nat):Int)==0)=false:=by rw[beq_eq_false_iff_ne];omega
      have spq:=sp_eql (p.1:Int) (q.1:Int);simp only[hp_get]at i2 ri1 ri2;generalize hnl:(waysB b n d w D).length - 1=nl at *;generalize (waysB b n d w D).length=N at *;generalize wayE (waysB b n d w D)=WE at *;subst i1;clear v gs hb hm hf hfd e1 e2 e3 e4 e5 hbk had hn hwl hcl hmx hll hs1 hs2 c34 c35 hx1 hB1 hx2 hB2 d1 d2 hw hx3 hB3 hwb hW hd hne hne2 hp hq hp1 hq1 hpos hl0 hl108 i3 i4 hnl;generalize slN (natsE (couldN b w D b.moulds.length))=L1 at *;generalize slN (natsE (lisN (whoN b w D b.moulds.length) 6))=L2 at *;refine ClR.walk (c:=_) rfl Tryz.func5 rfl (by kernel_rfl) rfl isRet_fail ?_
      try simp only[entryEnv,Nat.reduceAdd,List.nil_append,List.cons_append,emptyHp]
      repeat' (first|(apply W.drawQ (id:=6) (l1:=[0,1,2,3,4]) (l2:=[]);kernel_rfl;kernel_rfl;kernel_rfl;exact Z4)|(apply W.drawQ (id:=12) (l1:=[0,1,2,3,4,5,6,7,8,9]) (l2:=[]);kernel_rfl;kernel_rfl;kernel_rfl;exact Z4)|(apply W.drawQ (id:=18) (l1:=[0,1,2,3,4,5,6,7,8,9,10,11,12,13,14,15,16,17,18,19,20,21]) (l2:=[]);kernel_rfl;kernel_rfl;kernel_rfl;exact Z4)|refine go1 ?_|refine uJ (k20 _) ?_|refine uJ (k21 _) ?_|refine uJ (k23 _) ?_|refine uJ (k23b _) ?_|refine uJ (k24 _) ?_|refine uJ k29a ?_|refine uJ k29b ?_|refine uJ (k30 _) ?_|refine uJ (k31 _) ?_|refine uJ (k32 _) ?_|refine uJ (k33 _) ?_|refine uJ k34 ?_|refine uJ k35 ?_|refine uJ k36 ?_|refine uJ (k37 _ _ _) ?_|(refine go2 ?_ ?_<;>intro hh)|fail)
      all_goals (simp only[rV Tryz.func5,Tryz.results5];first|exact J5|refine J6 ?_)
end
section
attribute [local irreducible] wayE waysB houN natsE betW confP
theorem not_in_take{l:List Int}{k:Nat}{x n:Int}(hx:l[k]? =some x)(h:n∉l.take k)(e:x≠n):n∉l.take (k+1):=by
 rw[take_next hx,List.mem_append];rintro(q|q)
 ·exact h q
 ·exact e (List.mem_singleton.1 q).symm
section
variable{c:Itr}
theorem C47(hc:c 47=none)(la:AV)(l:List Int)(hl:slV intC la=some l)(n:Int)(h:Heap):Cl (dX c) 47 [la,.int .i64 n] h (.ret (.bool (decide (n∈l))) h none):=by
 refine ClR.cl ?_;have ol:=sl_out hl;have ll:=sl_len hl;have ml:=sl_max hl;have HL:=J1 hl;clear hl;refine ClR.walk (c:=_) hc Tryz.func47 rfl (by kernel_rfl) rfl (fun e=>by cases e) ?_
 try simp only[entryEnv,Nat.reduceAdd,List.nil_append,List.cons_append,emptyHp]
 repeat' (first|refine goS ?_|(refine go2 ?_ ?_<;>intro hh)|fail)
 refine W.loopH (l.length) [0,1] [] (fun k e lm=>e.get 5=some (.int .i64 ↑k)/\n∉l.take k) ?_ ?_
 ·skip
  refine⟨?_,by simp⟩;simp[go_sem, *]
 intro k e lm hk0 hce hcl hinv;simp only[keepE,and_true]at hce;obtain⟨c0,c1⟩:=hce;simp only[go_sem, *,Nat.reduceBEq,Nat.reduceEqDiff,reduceIte]at c0 c1;clear hcl;obtain⟨h5,hno⟩:=hinv;by_cases hlt:k<l.length
 ·have hd0:=dT hlt
  have hv_0:=wrap_succ hlt ml;obtain⟨x,hx⟩:=get_some hlt;have hix:=ints_idx HL.out hx;by_cases hxn:x=n
  ·have heq:(x==n)=true:=by simpa using hxn
   have hyes:decide (n∈l)=true:=by
    rw[decide_eq_true_eq,<-hxn];exact List.mem_of_getElem? hx
   rw[hyes];clear hx hno hxn hlt hyes;repeat' (first|refine goS ?_|(refine go2 ?_ ?_<;>intro hh)|fail)
   all_goals (simp only[rV Tryz.func47,Tryz.results47];first|exact J5|refine J6 ?_)
   all_goals rfl
  ·have heq:(x==n)=false:=by simpa using hxn
   have hnx:=not_in_take hx hno hxn;have HNX:=J1 hnx;have HLT0:=J1 hlt;clear hx hno hxn hlt hnx;repeat' (first|refine goS ?_|(refine go2 ?_ ?_<;>intro hh)|fail)
   all_goals refine contH_mk J9 J7 J8 ?_
   all_goals refine⟨?_,?_⟩
   all_goals first|exact Z2|skip
   all_goals exact HNX.out
 ·have hd0:=dF hlt
  obtain rfl:k=l.length:=by omega
  have hyes:decide (n∈l)=false:=by
   rw[List.take_length]at hno;simpa using hno
  rw[hyes];clear hyes hno;repeat' (first|refine goS ?_|(refine go2 ?_ ?_<;>intro hh)|fail)
  all_goals (simp only[rV Tryz.func47,Tryz.results47];first|exact J5|refine J6 ?_)
  all_goals rfl
end
theorem hou_zero{b:Bk}(hbk:bookB b=true)(hmx:b.moulds.length <=maxL){m:Nat}{d:Md}(hd:b.moulds[m]? =some d)(seen:Nat)(day:Int):houN b.miss b.ghost b.moulds m d seen day=0↔waysB b m d seen day=[]:=by
 rw[<-way_house hbk hmx hd];constructor
 ·intro h
  cases hw:waysB b m d seen day with
  |nil=>rfl
  | cons p r =>
   exfalso
   have hp:(waysB b m d seen day)[0]? =some p:=by rw[hw];rfl
   obtain⟨x,hx⟩:=get_some (way_mem hp);have hb:(wayH d.loans (waysB b m d seen day)).testBit x.house.toNat=true:=by
    unfold wayH;rw[wayH_bit,hw,List.any_cons];simp[hx]
   rw[h,Nat.zero_testBit]at hb;cases hb
 ·intro h
  rw[h,wayH_nil]
theorem way_zero{b:Bk}{m:Nat}{d:Md}{seen:Nat}{day:Int}:(waysB b m d seen day=[])↔(waysB b m d seen day).length=0:=List.length_eq_zero_iff.symm
theorem confP_is{b:Bk}(hbk:bookB b=true)(hmx:b.moulds.length <=maxL){m n:Nat}{d e:Md}(hd:b.moulds[m]? =some d)(he:b.moulds[n]? =some e)(w:Nat):confP b (m:Int) (n:Int) w=(decide (0<(waysB b m d w 99).length)&&decide (0<(waysB b n e w 99).length)):=by
 unfold confP;have m1:mdAt b (m:Int)=d:=mdAt_is hd;have m2:mdAt b (n:Int)=e:=mdAt_is he;rw[m1,m2,Int.toNat_natCast,Int.toNat_natCast,Bool.eq_iff_iff];simp only[Bool.and_eq_true,bne_iff_ne,ne_eq,decide_eq_true_eq];rw[hou_zero hbk hmx hd,hou_zero hbk hmx he,way_zero,way_zero];omega
theorem could_mem{b:Bk}(hbk:bookB b=true)(hmx:b.moulds.length <=maxL){m:Nat}{d:Md}(hd:b.moulds[m]? =some d)(w:Nat)(day:Int):decide ((m:Int)∈intsN (couldN b w day b.moulds.length))=decide (0<(waysB b m d w day).length):=by
 have h1:=(way_bet hbk hmx hd w day).1;have hl:=(List.getElem?_eq_some_iff.1 hd).1;rw[Bool.eq_iff_iff,decide_eq_true_eq,decide_eq_true_eq];have e1:(m:Int)∈intsN (couldN b w day b.moulds.length)↔m∈couldN b w day b.moulds.length:=by
  unfold intsN;rw[List.mem_map];constructor
  ·rintro⟨q,hq,e⟩
   have:q=m:=by omega
   rw[<-this];exact hq
  ·intro h
   exact⟨m,h,rfl⟩
 rw[e1];unfold couldN;rw[List.mem_filter,List.mem_range,decide_eq_true_eq,mdO_is hd];constructor
 ·rintro⟨_,h⟩
  have h2:¬(waysB b m d w day=[]):=fun e=>by have:=h1.1 e;omega
  rw[way_zero]at h2;omega
 ·intro h
  refine⟨hl,?_⟩;have h2:¬(waysB b m d w day=[]):=fun e=>by rw[way_zero]at e;omega
  have h3:(betW b.miss b.ghost b.moulds m d w day).1≠0:=fun e=>h2 (h1.2 e);omega
def confI(p:Nat->Bool):Int:=match (List.range 256).find? p with
 |some s=>(s:Int)
 |none=>-1
section
variable{c:Itr}
theorem C46(cx:CxY c)(h81:(dX c).intr 81=some (pureFn sp81))(hc:c 46=none)(b:Bk)(sa:AV)(hm:MdsV sa b.moulds)(hbk:bookB b=true)(m n:Nat)(d dd:Md)(hd:b.moulds[m]? =some d)(he:b.moulds[n]? =some dd)(h:Heap) :
  ClR (dX c) 46 [.agg [.int .i64 b.miss,.int .i64 b.ghost,sa],.int .i64 (m:Int),.int .i64 (n:Int)] h (valR (.int .i64 (confI (confP b (m:Int) (n:Int)))) h):=by
 have os:=hm.out;have k36:=fun(w:Nat) (hw:w<256) (h:Heap)=>C36 cx b sa hm hbk m d hd w hw 99 h;have k36b:=fun(w:Nat) (hw:w<256) (h:Heap)=>C36 cx b sa hm hbk n dd he w hw 99 h;have K36:=J1 k36;have K36B:=J1 k36b;have k81:∀h,Cl (dX c) 81 [.int .i64 8] h (.ret (.int .i64 256) h none):=fun h=>K81 (X:=dX c) h81 8 (by omega) h;have hcp:=fun(w:Nat)=>confP_is hbk hm.max hd he w;have HCP:=J1 hcp;have hno0:∀i,i<0->confP b (m:Int) (n:Int) i=false:=fun i hi=>absurd hi (Nat.not_lt_zero _);have HNO0:=J1 hno0;clear hm hbk k36 k36b hcp hno0;generalize confP b (m:Int) (n:Int)=P at *;refine ClR.walk (c:=_) hc Tryz.func46 rfl (by kernel_rfl) rfl valR_fail ?_
 try simp only[entryEnv,Nat.reduceAdd,List.nil_append,List.cons_append,emptyHp]
 repeat' (first|refine goS ?_|(refine go2 ?_ ?_<;>intro hh)|fail)
 refine W.loopV (256) [1,2,3] [3] (fun k e lm hp=>e.get 7=some (.int .i64 ↑k)/\(∀i,i<k->P i=false)/\HExt h hp) ?_ ?_
 ·skip
  refine⟨?_,HNO0.out,HExt.refl _⟩;simp[go_sem, *]
 intro k e lm hp hk0 hce hcl hinv;simp only[keepE,and_true]at hce;obtain⟨c1,c2,c3⟩:=hce;simp only[go_sem, *,Nat.reduceBEq,Nat.reduceEqDiff,reduceIte]at c1 c2 c3;simp only[keepL,and_true]at hcl;have d3:=hcl;clear hcl;simp only[go_sem, *,Nat.reduceBEq,Nat.reduceEqDiff,reduceIte]at d3;obtain⟨h7,hno,hX⟩:=hinv;by_cases hlt:k<256
 ·have hd0:=dT hlt
  have hv_0:=wrap_succ hlt (by unfold maxL;omega);have hle:decide ((k:Int)<256)=true:=by simp only[decide_eq_true_eq];omega
  have k36:=K36.out k hlt hp;unfold ClR at k36;obtain⟨r,k36,hz,w1,hx1,rfl,hB1⟩:=k36;have k36b:=K36B.out k hlt hz;unfold ClR at k36b;obtain⟨r,k36b,hz2,w2,hx2,rfl,hB2⟩:=k36b;have wo1:=hB1.blt.out;have wl1:=hB1.blt.len;have wo2:=hB2.blt.out;have wl2:=hB2.blt.len;rw[wayE_len]at wl1 wl2;have hcp:=HCP.out k;have HNO:=J1 hno;have HX1:=J1 (hX.trans hx1);have HX2:=J1 ((hX.trans hx1).trans hx2);have HLT0:=J1 hlt;obtain⟨g8,hg8⟩:∃gg,nextGen lm 8=gg:=⟨_,rfl⟩;unfold nextGen at hg8;clear hno hX hx1 hx2 hB1 hB2 hlt;generalize (waysB b m d k 99).length=A at *;generalize (waysB b n dd k 99).length=B at *;have hst:P k=false->∀i,i<k+1->P i=false:=fun e i hi=>by
   by_cases q:i=k
   ·subst q;exact e
   ·exact HNO.out i (by omega)
  have HST:=J1 hst;clear hst;by_cases hA:0<A
  ·have a1:decide ((A:Int)>0)=true:=by simp only[decide_eq_true_eq];omega
   by_cases hB:0<B
   ·have a2:decide ((B:Int)>0)=true:=by simp only[decide_eq_true_eq];omega
    have hp1:P k=true:=by rw[hcp];simp[hA,hB]
    have hfi:confI P=(k:Int):=by unfold confI;rw[conf_at HLT0.out HNO.out hp1]
    rw[hfi];clear hcp hA hB hp1 hfi;repeat' (first|refine goS ?_|refine uJ k36 ?_|refine uJ k36b ?_|refine uJ (k81 _) ?_|(refine go2 ?_ ?_<;>intro hh)|fail)
    all_goals (simp only[rV Tryz.func46,Tryz.results46];first|exact J5|refine J6 ?_)
    exact⟨_,rfl,HX2.out⟩
   ·have a2:decide ((B:Int)>0)=false:=by simp only[decide_eq_false_iff_not];omega
    have hp1:=HST.out (by rw[hcp];simp[hB]);have HNX:=J1 hp1;clear hcp hA hB hp1;repeat' (first|refine goS ?_|refine uJ k36 ?_|refine uJ k36b ?_|refine uJ (k81 _) ?_|(refine go2 ?_ ?_<;>intro hh)|fail)
    all_goals refine contV_mk J9 J7 J8 ?_
    all_goals refine⟨?_,HNX.out,HX2.out⟩
    all_goals first|exact Z2|skip
  ·have a1:decide ((A:Int)>0)=false:=by simp only[decide_eq_false_iff_not];omega
   have hp1:=HST.out (by rw[hcp];simp[hA]);have HNX:=J1 hp1;clear hcp hA hp1;repeat' (first|refine gJ ?_|refine go1 ?_|refine uJ k36 ?_|refine uJ (k81 _) ?_|(refine go2 ?_ ?_<;>intro hh)|fail)
   all_goals refine contV_mk J9 J7 J8 ?_
   all_goals refine⟨?_,HNX.out,HX1.out⟩
   all_goals first|exact Z2|skip
 ·have hd0:=dF hlt
  obtain rfl:k=256:=by omega
  have hle:decide (((256:Nat):Int)<256)=false:=rfl;have hfi:confI P= -1:=by
   unfold confI;have:(List.range 256).find? P=none:=by
    rw[List.find?_eq_none];intro x hx;rw[hno x (List.mem_range.1 hx)]
    decide
   rw[this]
  rw[hfi];have HX:=J1 hX;clear hno hX hfi;repeat' (first|refine goS ?_|refine uJ (k81 _) ?_|(refine go2 ?_ ?_<;>intro hh)|fail)
  all_goals (simp only[rV Tryz.func46,Tryz.results46];first|exact J5|refine J6 ?_)
  exact⟨_,rfl,HX.out⟩
end
end
section
attribute [local irreducible] natsE bookB allDays shortB numB findB couldN waysB confP
noncomputable def c8:Itr
 |21=>some (pureFn sp21)
 |48=>some (pureFn sp48)
 |24=>some (pureFn sp24)
 |30=>some (newQ sp30)
 |41=>some (pureFn sp41)
 |45=>some (pureFn sp45)
 |81=>some (pureFn sp81)
 |133=>some (pureFn sp133)
 |_=>none
theorem c8_sound:Sound (dX c8):=dX_sound (fun f g h=>by
 unfold c8 at h;split at h
 ·cases h;exact F21
 ·cases h;exact F48
 ·cases h;exact F24
 ·cases h;exact F30
 ·cases h;exact F41
 ·cases h;exact f45
 ·cases h;exact F81
 ·cases h;exact F133
 ·cases h)
theorem c8_Y:CxY c8:={ h42:=rfl,h105:=rfl,h106:=rfl,h109:=rfl,h144:=rfl,h36:=rfl,h85:=rfl,h95:=rfl,h133:=rfl }
theorem find_99{w:Nat}(h:w<256):findB (w:Int) 99=true:=by
 unfold findB inB;simp only[Bool.and_eq_true,decide_eq_true_eq];omega
theorem could_ok{b:Bk}(hbk:bookB b=true)(had:allDays b.moulds=true){w:Nat}(h:w<256):couldV b (w:Int) 99= .tuple [slN (natsE (couldN b w 99 b.moulds.length)),.int .i64 0]:=by
 unfold couldV;rw[hbk,find_99 h,had,Int.toNat_natCast];simp
theorem T8 (sa : AV) (b : Bk) (one oth set : Int) (v : MdsI sa b.moulds) : ClR (dX c8) 8 [.agg [.int .i64 b.miss, .int .i64 b.ghost, sa], .int .i64 one, .int .i64 oth, .int .i64 set] emptyHp (isRet (.bool true)) := by
 have os:=v.out;have k21:∀h,Cl (dX c8) 21 [] h (.ret (.bool true) h none):=fun h=>K21 rfl h;have k20:=fun h=>C20I (c:=c8) rfl b sa v h;have k41:=fun h=>K41 (X:=dX c8) rfl set h;have q0:((0:Int)==0)=true:=rfl;have n0:((0:Int) !=0)=false:=rfl;have n2:((2:Int) !=0)=true:=rfl;have q2:((2:Int)==2)=true:=rfl;have n5:((5:Int) !=5)=false:=rfl;have n50:((5:Int)==0)=false:=rfl;cases gs:shortB b with
 |false=>
  rw[gs]at k20;clear v gs k41;refine ClR.walk (c:=_) rfl Tryz.func8 rfl (by kernel_rfl) rfl isRet_fail ?_
  try simp only[entryEnv,Nat.reduceAdd,List.nil_append,List.cons_append,emptyHp]
  repeat' (first|refine goS ?_|refine uJ (k20 _) ?_|refine uJ (k21 _) ?_|(refine go2 ?_ ?_<;>intro hh)|fail)
  all_goals (simp only[rV Tryz.func8,Tryz.results8];first|exact J5|refine J6 ?_)
 | true =>
  have hb:=short_bk v gs;rw[gs]at k20;obtain⟨sa',e,hm⟩:=bk_is hb;have e:=AV.agg.inj e;simp only[List.cons.injEq,and_true,true_and]at e;subst e;have k24:=fun h=>K24 (X:=dX c8) rfl hb one h;have k24b:=fun h=>K24 (X:=dX c8) rfl hb oth h;have k45:=fun h=>K45 (X:=dX c8) rfl hb one oth h;have k23:=fun is h=>C23 (c:=c8) rfl rfl rfl rfl hb hm is h;by_cases hbad:(numB b.moulds one&&numB b.moulds oth&&(one !=oth))=false
  ·have e1:confV b one oth= .tuple [.int .i64 0,.int .i64 2]:=by unfold confV;rw[hbad];simp
   have e4:askI b false=2:=by unfold askI;simp
   have k23:=k23 false;rw[e4]at k23;rw[e1]at k45;cases h1:numB b.moulds one with
   |false=>
    rw[h1]at k24;clear v gs hb hm e1 e4 hbad h1 k41;refine ClR.walk (c:=_) rfl Tryz.func8 rfl (by kernel_rfl) rfl isRet_fail ?_
    try simp only[entryEnv,Nat.reduceAdd,List.nil_append,List.cons_append,emptyHp]
    repeat' (first|(apply W.drawQ (id:=4) (l1:=[0,1,2,3,4,5,6,7,8,9,10,11,12,13,14,15]) (l2:=[]);kernel_rfl;kernel_rfl;kernel_rfl;exact Z4)|refine gJ ?_|refine go1 ?_|refine uJ (k20 _) ?_|refine uJ (k21 _) ?_|refine uJ (k23 _) ?_|refine uJ (k24 _) ?_|refine uJ (k45 _) ?_|(refine go2 ?_ ?_<;>intro hh)|fail)
    all_goals (simp only[rV Tryz.func8,Tryz.results8];first|exact J5|refine J6 ?_)
   | true =>
    rw[h1]at k24;cases h2:numB b.moulds oth with
    |false=>
     rw[h2]at k24b;clear v gs hb hm e1 e4 hbad h1 h2 k41;refine ClR.walk (c:=_) rfl Tryz.func8 rfl (by kernel_rfl) rfl isRet_fail ?_
     try simp only[entryEnv,Nat.reduceAdd,List.nil_append,List.cons_append,emptyHp]
     repeat' (first|(apply W.drawQ (id:=4) (l1:=[0,1,2,3,4,5,6,7,8,9,10,11,12,13,14,15]) (l2:=[]);kernel_rfl;kernel_rfl;kernel_rfl;exact Z4)|refine gJ ?_|refine go1 ?_|refine uJ (k20 _) ?_|refine uJ (k21 _) ?_|refine uJ (k23 _) ?_|refine uJ (k24 _) ?_|refine uJ (k24b _) ?_|refine uJ (k45 _) ?_|(refine go2 ?_ ?_<;>intro hh)|fail)
     all_goals (simp only[rV Tryz.func8,Tryz.results8];first|exact J5|refine J6 ?_)
    |true=>
     rw[h2]at k24b;rw[h1,h2,Bool.true_and,Bool.true_and]at hbad;clear v gs hb hm e1 e4 h1 h2 k41;refine ClR.walk (c:=_) rfl Tryz.func8 rfl (by kernel_rfl) rfl isRet_fail ?_
     try simp only[entryEnv,Nat.reduceAdd,List.nil_append,List.cons_append,emptyHp]
     repeat' (first|(apply W.drawQ (id:=4) (l1:=[0,1,2,3,4,5,6,7,8,9,10,11,12,13,14,15]) (l2:=[]);kernel_rfl;kernel_rfl;kernel_rfl;exact Z4)|refine gJ ?_|refine go1 ?_|refine uJ (k20 _) ?_|refine uJ (k21 _) ?_|refine uJ (k23 _) ?_|refine uJ (k24 _) ?_|refine uJ (k24b _) ?_|refine uJ (k45 _) ?_|(refine go2 ?_ ?_<;>intro hh)|fail)
     all_goals (simp only[rV Tryz.func8,Tryz.results8];first|exact J5|refine J6 ?_)
  ·have hbad : (numB b.moulds one && numB b.moulds oth && (one != oth)) = true := by rw [<- Bool.not_eq_false]; exact hbad
   have hbad2:=hbad;simp only[Bool.and_eq_true]at hbad2;obtain⟨⟨h1,h2⟩,h3⟩:=hbad2;rw[h1]at k24;rw[h2]at k24b;have k23:=k23 true;cases hok:(bookB b&&allDays b.moulds)with
   | false =>
    obtain⟨e0,a1,a4,a6⟩:∃e0:Int,confV b one oth= .tuple [.int .i64 0,.int .i64 e0]/\askI b true=e0/\(e0 !=0)=true:=by
     unfold confV askI;rw[hbad];cases g1:bookB b with
     |false=>exact⟨2,by simp,by simp,rfl⟩
     |true=>
      have g2:allDays b.moulds=false:=by rw[g1,Bool.true_and]at hok;exact hok
      rw[g2];exact⟨7,by simp,by simp,rfl⟩
    have r1:(e0==e0)=true:=by simp
    rw[a1]at k45;rw[a4]at k23;clear v gs hb hm hbad h1 h2 hok a1 a4 k41;refine ClR.walk (c:=_) rfl Tryz.func8 rfl (by kernel_rfl) rfl isRet_fail ?_
    try simp only[entryEnv,Nat.reduceAdd,List.nil_append,List.cons_append,emptyHp]
    repeat' (first|(apply W.drawQ (id:=4) (l1:=[0,1,2,3,4,5,6,7,8,9,10,11,12,13,14,15]) (l2:=[]);kernel_rfl;kernel_rfl;kernel_rfl;exact Z4)|refine go1 ?_|refine uJ (k20 _) ?_|refine uJ (k21 _) ?_|refine uJ (k23 _) ?_|refine uJ (k24 _) ?_|refine uJ (k24b _) ?_|refine uJ (k45 _) ?_|(refine go2 ?_ ?_<;>intro hh)|fail)
    all_goals (simp only[rV Tryz.func8,Tryz.results8];first|exact J5|refine J6 ?_)
   | true =>
    rw[Bool.and_eq_true]at hok;obtain⟨hbk,had⟩:=hok;have e2:askI b true=0:=by unfold askI;rw[hbk,had];simp
    rw[e2]at k23;obtain⟨m,d,rfl,hd⟩:=num_at h1;obtain⟨n,e,rfl,he⟩:=num_at h2;have k46:=C46 (c:=c8) c8_Y rfl rfl b sa hm hbk m n d e hd he emptyHp;unfold ClR at k46;obtain⟨r,k46,⟨bn,bm⟩,rfl,hx1⟩:=k46;have hcp:=fun(w:Nat)=>confP_is hbk hm.max hd he w;have k30o:=fun(w:Nat) (hw:w<256) (h:Heap)=>K30 (X:=dX c8) rfl hb (w:Int) 99 h;have hcv:=fun(w:Nat) (hw:w<256)=>could_ok hbk had hw;have hml:=hm.max;have hsl:=fun(w:Nat)=>nats_sl (g:=couldN b w 99 b.moulds.length) (by have:=couldN_len b w 99 b.moulds.length;omega);have k47o:=fun(w:Nat) (q:Int) (h:Heap)=>C47 (c:=c8) rfl (slN (natsE (couldN b w 99 b.moulds.length))) _ (hsl w) q h;have hm1:=fun(w:Nat)=>could_mem hbk hm.max hd w 99;have hm2:=fun(w:Nat)=>could_mem hbk hm.max he w 99;have ho:=fun(w:Nat)=>sl_out (hsl w);have hc1:=fun(w:Nat)=>(slV_is (hsl w)).1.cells;have ht1:=fun(w:Nat)=>(slV_is (hsl w)).1.tup;simp only[AV.cells]at hc1;simp only[isTuple]at ht1;have HCV:=J1 hcv;have K30O:=J1 k30o;have K47O:=J1 k47o;have HM1:=J1 hm1;have HM2:=J1 hm2;have HO:=J1 ho;have HC1:=J1 hc1;have HT1:=J1 ht1;have HCP:=J1 hcp;have hset:inB set 0 255=true->∃w:Nat,set=(w:Int)/\w<256:=fun h=>by
     unfold inB at h;rw[Bool.and_eq_true,decide_eq_true_eq,decide_eq_true_eq]at h;exact⟨set.toNat,by omega,by omega⟩
    have HSET:=J1 hset;have HCF:confV b (m:Int) (n:Int)=(match (List.range 256).find? (confP b (m:Int) (n:Int))with|some s=>.tuple [.int .i64 (s:Int),.int .i64 0]|none=>.tuple [.int .i64 0,.int .i64 5]):=by
     unfold confV;rw[hbk,had,hbad];rfl
    rw[HCF]at k45;clear v gs hb hm hbk had h1 h2 hbad hx1 hcp k30o k47o hm1 hm2 ho hc1 ht1 hsl hml hset hcv HCF;unfold confI at k46;have m1:decide ((-1:Int)<0)=true:=rfl;have m2:decide ((-1:Int) >=0)=false:=rfl;cases hf:(List.range 256).find? (confP b (m:Int) (n:Int))with
    | none =>
     rw[hf]at k45 k46;simp only at k45 k46;cases hs:inB set 0 255 with
     |false=>
      rw[hs]at k41;clear hf hs;refine ClR.walk (c:=_) rfl Tryz.func8 rfl (by kernel_rfl) rfl isRet_fail ?_
      try simp only[entryEnv,Nat.reduceAdd,List.nil_append,List.cons_append,emptyHp]
      repeat' (first|(apply W.drawQ (id:=4) (l1:=[0,1,2,3,4,5,6,7,8,9,10,11,12,13,14,15]) (l2:=[]);kernel_rfl;kernel_rfl;kernel_rfl;exact Z4)|refine gJ ?_|refine go1 ?_|refine uJ (k20 _) ?_|refine uJ (k21 _) ?_|refine uJ (k23 _) ?_|refine uJ (k24 _) ?_|refine uJ (k24b _) ?_|refine uJ (k41 _) ?_|refine uJ (k45 _) ?_|refine uJ k46 ?_|(refine go2 ?_ ?_<;>intro hh)|fail)
      all_goals (simp only[rV Tryz.func8,Tryz.results8];first|exact J5|refine J6 ?_)
     | true =>
      rw[hs]at k41;obtain⟨w,rfl,hw⟩:=HSET.out hs;have hp:=(List.find?_eq_none.1 hf) w (List.mem_range.2 hw);have hp:confP b (m:Int) (n:Int) w=false:=by simpa using hp
      rw[HCP.out w]at hp;have k30:=K30O.out w hw;rw[HCV.out w hw]at k30;have k47:=K47O.out w (m:Int);have k47b:=K47O.out w (n:Int);rw[HM1.out w]at k47;rw[HM2.out w]at k47b;have ho:=HO.out w;have hc1:=HC1.out w;have ht1:=HT1.out w;generalize slN (natsE (couldN b w 99 b.moulds.length))=L1 at *;clear hf hs hw;cases g1:decide (0<(waysB b m d w 99).length)with
      |false=>
       rw[g1]at k47;clear hp g1;refine ClR.walk (c:=_) rfl Tryz.func8 rfl (by kernel_rfl) rfl isRet_fail ?_
       try simp only[entryEnv,Nat.reduceAdd,List.nil_append,List.cons_append,emptyHp]
       repeat' (first|(apply W.drawQ (id:=4) (l1:=[0,1,2,3,4,5,6,7,8,9,10,11,12,13,14,15]) (l2:=[]);kernel_rfl;kernel_rfl;kernel_rfl;exact Z4)|refine gJ ?_|refine go1 ?_|refine uJ (k20 _) ?_|refine uJ (k21 _) ?_|refine uJ (k23 _) ?_|refine uJ (k24 _) ?_|refine uJ (k24b _) ?_|refine uJ (k30 _) ?_|refine uJ (k41 _) ?_|refine uJ (k45 _) ?_|refine uJ k46 ?_|refine uJ (k47 _) ?_|(refine go2 ?_ ?_<;>intro hh)|fail)
       all_goals (simp only[rV Tryz.func8,Tryz.results8];first|exact J5|refine J6 ?_)
      |true=>
       rw[g1,Bool.true_and]at hp;rw[g1]at k47;rw[hp]at k47b;clear hp g1;refine ClR.walk (c:=_) rfl Tryz.func8 rfl (by kernel_rfl) rfl isRet_fail ?_
       try simp only[entryEnv,Nat.reduceAdd,List.nil_append,List.cons_append,emptyHp]
       repeat' (first|(apply W.drawQ (id:=4) (l1:=[0,1,2,3,4,5,6,7,8,9,10,11,12,13,14,15]) (l2:=[]);kernel_rfl;kernel_rfl;kernel_rfl;exact Z4)|refine gJ ?_|refine go1 ?_|refine uJ (k20 _) ?_|refine uJ (k21 _) ?_|refine uJ (k23 _) ?_|refine uJ (k24 _) ?_|refine uJ (k24b _) ?_|refine uJ (k30 _) ?_|refine uJ (k41 _) ?_|refine uJ (k45 _) ?_|refine uJ k46 ?_|refine uJ (k47 _) ?_|refine uJ (k47b _) ?_|(refine go2 ?_ ?_<;>intro hh)|fail)
       all_goals (simp only[rV Tryz.func8,Tryz.results8];first|exact J5|refine J6 ?_)
    | some s =>
     rw[hf]at k45 k46;simp only at k45 k46;obtain⟨hs1,i,hi,his,hlow⟩:=List.find?_eq_some_iff_getElem.1 hf;have hsl:s<256:=by
      have h2:i<256:=by simpa using hi
      have:i=s:=by simpa using his
      omega
     have hlow2:∀w,w<s->confP b (m:Int) (n:Int) w=false:=fun w hw=>by
      have h2:i=s:=by simpa using his
      have:=hlow w (by omega);simpa using this
     rw[HCP.out s,Bool.and_eq_true]at hs1;have k30:=K30O.out s hsl;rw[HCV.out s hsl]at k30;have k47:=K47O.out s (m:Int);have k47b:=K47O.out s (n:Int);rw[HM1.out s,hs1.1]at k47;rw[HM2.out s,hs1.2]at k47b;have ho:=HO.out s;have hc1:=HC1.out s;have ht1:=HT1.out s;have p0:decide ((s:Int)<0)=false:=by simp only[decide_eq_false_iff_not];omega
     have p1:decide ((s:Int) >=0)=true:=by simp only[decide_eq_true_eq];omega
     have p2:((s:Int) !=(s:Int))=false:=by simp
     clear hf hs1 his hlow hsl;cases hs:inB set 0 255 with
     |false=>
      rw[hs]at k41;clear hs hlow2;generalize slN (natsE (couldN b s 99 b.moulds.length))=L1 at *;refine ClR.walk (c:=_) rfl Tryz.func8 rfl (by kernel_rfl) rfl isRet_fail ?_
      try simp only[entryEnv,Nat.reduceAdd,List.nil_append,List.cons_append,emptyHp]
      repeat' (first|(apply W.drawQ (id:=4) (l1:=[0,1,2,3,4,5,6,7,8,9,10,11,12,13,14,15]) (l2:=[]);kernel_rfl;kernel_rfl;kernel_rfl;exact Z4)|refine gJ ?_|refine go1 ?_|refine uJ (k20 _) ?_|refine uJ (k21 _) ?_|refine uJ (k23 _) ?_|refine uJ (k24 _) ?_|refine uJ (k24b _) ?_|refine uJ (k30 _) ?_|refine uJ (k41 _) ?_|refine uJ (k45 _) ?_|refine uJ k46 ?_|refine uJ (k47 _) ?_|refine uJ (k47b _) ?_|(refine go2 ?_ ?_<;>intro hh)|fail)
      all_goals (simp only[rV Tryz.func8,Tryz.results8];first|exact J5|refine J6 ?_)
     | true =>
      rw[hs]at k41;obtain⟨w,rfl,hw⟩:=HSET.out hs;by_cases hge:(w:Int) >=(s:Int)
      ·have p3:decide ((w:Int) >=(s:Int))=true:=by simpa using hge
       clear hs hlow2 hge hw;generalize slN (natsE (couldN b s 99 b.moulds.length))=L1 at *;refine ClR.walk (c:=_) rfl Tryz.func8 rfl (by kernel_rfl) rfl isRet_fail ?_
       try simp only[entryEnv,Nat.reduceAdd,List.nil_append,List.cons_append,emptyHp]
       repeat' (first|(apply W.drawQ (id:=4) (l1:=[0,1,2,3,4,5,6,7,8,9,10,11,12,13,14,15]) (l2:=[]);kernel_rfl;kernel_rfl;kernel_rfl;exact Z4)|refine gJ ?_|refine go1 ?_|refine uJ (k20 _) ?_|refine uJ (k21 _) ?_|refine uJ (k23 _) ?_|refine uJ (k24 _) ?_|refine uJ (k24b _) ?_|refine uJ (k30 _) ?_|refine uJ (k41 _) ?_|refine uJ (k45 _) ?_|refine uJ k46 ?_|refine uJ (k47 _) ?_|refine uJ (k47b _) ?_|(refine go2 ?_ ?_<;>intro hh)|fail)
       all_goals (simp only[rV Tryz.func8,Tryz.results8];first|exact J5|refine J6 ?_)
      ·have p3:decide ((w:Int) >=(s:Int))=false:=by simpa using hge
       have hp:=hlow2 w (by omega);rw[HCP.out w]at hp;have k30b:=K30O.out w hw;rw[HCV.out w hw]at k30b;have k47c:=K47O.out w (m:Int);have k47d:=K47O.out w (n:Int);rw[HM1.out w]at k47c;rw[HM2.out w]at k47d;have ho':=HO.out w;have hc1':=HC1.out w;have ht1':=HT1.out w;generalize slN (natsE (couldN b s 99 b.moulds.length))=L1 at *;generalize slN (natsE (couldN b w 99 b.moulds.length))=L2 at *;clear hs hlow2 hge hw;cases g1:decide (0<(waysB b m d w 99).length)with
       |false=>
        rw[g1]at k47c;clear hp g1;refine ClR.walk (c:=_) rfl Tryz.func8 rfl (by kernel_rfl) rfl isRet_fail ?_
        try simp only[entryEnv,Nat.reduceAdd,List.nil_append,List.cons_append,emptyHp]
        repeat' (first|(apply W.drawQ (id:=4) (l1:=[0,1,2,3,4,5,6,7,8,9,10,11,12,13,14,15]) (l2:=[]);kernel_rfl;kernel_rfl;kernel_rfl;exact Z4)|refine gJ ?_|refine go1 ?_|refine uJ (k20 _) ?_|refine uJ (k21 _) ?_|refine uJ (k23 _) ?_|refine uJ (k24 _) ?_|refine uJ (k24b _) ?_|refine uJ (k30 _) ?_|refine uJ (k30b _) ?_|refine uJ (k41 _) ?_|refine uJ (k45 _) ?_|refine uJ k46 ?_|refine uJ (k47 _) ?_|refine uJ (k47b _) ?_|refine uJ (k47c _) ?_|(refine go2 ?_ ?_<;>intro hh)|fail)
        all_goals (simp only[rV Tryz.func8,Tryz.results8];first|exact J5|refine J6 ?_)
       |true=>
        rw[g1,Bool.true_and]at hp;rw[g1]at k47c;rw[hp]at k47d;clear hp g1;refine ClR.walk (c:=_) rfl Tryz.func8 rfl (by kernel_rfl) rfl isRet_fail ?_
        try simp only[entryEnv,Nat.reduceAdd,List.nil_append,List.cons_append,emptyHp]
        repeat' (first|(apply W.drawQ (id:=4) (l1:=[0,1,2,3,4,5,6,7,8,9,10,11,12,13,14,15]) (l2:=[]);kernel_rfl;kernel_rfl;kernel_rfl;exact Z4)|refine gJ ?_|refine go1 ?_|refine uJ (k20 _) ?_|refine uJ (k21 _) ?_|refine uJ (k23 _) ?_|refine uJ (k24 _) ?_|refine uJ (k24b _) ?_|refine uJ (k30 _) ?_|refine uJ (k30b _) ?_|refine uJ (k41 _) ?_|refine uJ (k45 _) ?_|refine uJ k46 ?_|refine uJ (k47 _) ?_|refine uJ (k47b _) ?_|refine uJ (k47c _) ?_|refine uJ (k47d _) ?_|(refine go2 ?_ ?_<;>intro hh)|fail)
        all_goals (simp only[rV Tryz.func8,Tryz.results8];first|exact J5|refine J6 ?_)
end
end Go.AM
