/-
    A part of the proof: contracts of functions.
-/
import Derived.Test.YtgihdicidaipmaaGreatDoorTAV
import Derived.Test.YtgihdicidaipmaaGreatDoorTAP
import Derived.Test.YtgihdicidaipmaaGreatDoorTAR
set_option linter.unusedSectionVars false
set_option linter.unusedVariables false
set_option linter.unusedSimpArgs false
set_option maxRecDepth 100000
set_option maxHeartbeats 16000000
namespace Go.AM
open Go Go.Proofs
variable[Keep]
attribute [local irreducible] W WO WO1 WD WQ WT thenQ blockQ endR isRet retK Cl ClR
section
attribute [local irreducible] lineM metS spotL spotI
theorem all_no{α:Type}{p:α->Bool}{l:List α}{k:Nat}{x:α}(h:l[k]? =some x)(hp:p x=false):l.all p=false:=by
 rw[List.all_eq_false];exact⟨x,List.mem_of_getElem? h,by rw[hp];decide⟩
theorem all_atF{α:Type}{p:α->Bool}{l:List α}{k:Nat}{x:α}(h:l[k]? =some x)(ha:(l.take k).all p=true):(l.take (k+1)).all p=p x:=by rw[take_next h,List.all_append,ha];simp
section
variable{c:Itr}
theorem C48 (hc : c 48 = none) (hc1 : c 109 = none) (hc2 : c 144 = none) (h80 : (dX c).intr 80 = some (pureFn sp80)) (h108 : (dX c).intr 108 = some (pureFn sp108)) (mi gh : Int) (sa : AV) (l : List Md) (hm : MdsV sa l) (h : Heap) :
  ClR (dX c) 48 [.agg [.int .i64 mi,.int .i64 gh,sa]] h (isRet (.bool (bookB ⟨mi,gh,l⟩))):=by
 have os:=hm.out;have hlen:=hm.len;have hmax:=hm.max;have HM:=J1 hm;have HX:=J1 hmax;cases h1:inB mi 0 2
 ·skip
  refine ClR.walk (c:=_) hc Tryz.func48 rfl (by kernel_rfl) rfl isRet_fail ?_
  try simp only[entryEnv,Nat.reduceAdd,List.nil_append,List.cons_append,emptyHp]
  repeat' (first|refine gJ ?_|refine go1 ?_|refine uJ (K80 h80 _ _ _ _) ?_|(refine go2 ?_ ?_<;>intro hh)|fail)
  all_goals (simp only[rV Tryz.func48,Tryz.results48];first|exact J5|refine J6 ?_)
  all_goals simp[bookB,h1]
 cases h2:inB gh 0 2
 ·skip
  refine ClR.walk (c:=_) hc Tryz.func48 rfl (by kernel_rfl) rfl isRet_fail ?_
  try simp only[entryEnv,Nat.reduceAdd,List.nil_append,List.cons_append,emptyHp]
  repeat' (first|refine gJ ?_|refine go1 ?_|refine uJ (K80 h80 _ _ _ _) ?_|(refine go2 ?_ ?_<;>intro hh)|fail)
  all_goals (simp only[rV Tryz.func48,Tryz.results48];first|exact J5|refine J6 ?_)
  all_goals simp[bookB,h1,h2]
 cases h3:inB l.length 1 5
 ·skip
  refine ClR.walk (c:=_) hc Tryz.func48 rfl (by kernel_rfl) rfl isRet_fail ?_
  try simp only[entryEnv,Nat.reduceAdd,List.nil_append,List.cons_append,emptyHp]
  repeat' (first|refine gJ ?_|refine go1 ?_|refine uJ (K80 h80 _ _ _ _) ?_|(refine go2 ?_ ?_<;>intro hh)|fail)
  all_goals (simp only[rV Tryz.func48,Tryz.results48];first|exact J5|refine J6 ?_)
  all_goals simp[bookB,h1,h2,h3]
 have hl5:l.length <=5:=by
  unfold inB at h3;simp only[Bool.and_eq_true,decide_eq_true_eq]at h3;omega
 have HL5:=J1 hl5;have hbk:bookB ⟨mi,gh,l⟩=bookP l l.length:=by simp[bookB,h1,h2,h3]
 rw[hbk];have HP0:=J1 (show bookP l 0=true from rfl);clear hbk hm hl5;refine ClR.walk (c:=_) hc Tryz.func48 rfl (by kernel_rfl) rfl isRet_fail ?_
 try simp only[entryEnv,Nat.reduceAdd,List.nil_append,List.cons_append,emptyHp]
 repeat' (first|refine gJ ?_|refine go1 ?_|refine uJ (K80 h80 _ _ _ _) ?_|(refine go2 ?_ ?_<;>intro hh)|fail)
 refine W.loopV (l.length) [1] [1] (fun k e lm hp=>e.get 3=some (.int .i64 ↑k)/\bookP l k=true) ?_ ?_
 ·skip
  refine⟨?_,HP0.out⟩;simp[go_sem, *]
 intro k e lm hp hk0 hce hcl hinv;simp only[keepE,and_true]at hce;have c1:=hce;clear hce;simp only[go_sem, *,Nat.reduceBEq,Nat.reduceEqDiff,reduceIte]at c1;simp only[keepL,and_true]at hcl;have d1:=hcl;clear hcl;simp only[go_sem, *,Nat.reduceBEq,Nat.reduceEqDiff,reduceIte]at d1;obtain⟨h3,hp0⟩:=hinv;by_cases hlt:k<l.length
 ·have hd0 := dT hlt
  have hv_0:=wrap_succ hlt HX.out;obtain⟨d,hd⟩:=get_some hlt;obtain⟨ma,la,v1,v2,hix⟩:=HM.out.elem _ _ hd;have om:=sl_out v1;have ol:=sl_out v2;have lm1:=sl_len v1;have ll1:=sl_len v2;have mm:=sl_max v1;have ml:=sl_max v2;have HLT:=J1 hlt;have hmb:mdOk d k=(preB d.parent d.clo d.chi d.marks.length d.loans.length k&&d.marks.all (fun x=>!badM x)&&d.loans.all (fun x=>!badL x)):=md_pre ..;have hno:mdOk d k=false->bookP l l.length=false:=fun e=>bookP_no (k:=k+1) (by rw[bookP_next hd,e];simp) (by omega);have hpd:preB d.parent d.clo d.chi d.marks.length d.loans.length k=(inB d.parent (-1) (IntKind.i64.wrap ((k:Int) - 1))&&spB d.clo d.chi 0 36&&!decide (IntKind.i64.wrap (d.chi - d.clo)>5)&&!(decide (d.parent<0)&&(d.chi !=0))&&!decide ((d.marks.length:Int)>4)&&inB d.loans.length 1 3):=rfl;obtain⟨g4,hg4⟩:∃gg,nextGen lm 4=gg:=⟨_,rfl⟩;unfold nextGen at hg4;have HMB:=J1 hmb;have HNO:=J1 hno;have HP:=J1 hp0;have HD:=J1 hd;have HV1:=J1 v1;have HV2:=J1 v2;clear hmb hno hp0 hd v1 v2 hlt;cases a1:inB d.parent (-1) (IntKind.i64.wrap ((k:Int) - 1))
  ·skip
   have hfin:=HNO.out (by rw[HMB.out,hpd,a1];simp);rw[hfin];clear hfin hpd;repeat' (first|refine gJ ?_|refine go1 ?_|refine uJ (K80 h80 _ _ _ _) ?_|refine uJ (K108 h108 _ _ _ _ _) ?_|(refine go2 ?_ ?_<;>intro hh)|fail)
   all_goals (simp only[rV Tryz.func48,Tryz.results48];first|exact J5|refine J6 ?_)
  cases a2:spB d.clo d.chi 0 36
  ·skip
   have hfin:=HNO.out (by rw[HMB.out,hpd,a1,a2];simp);rw[hfin];clear hfin hpd;repeat' (first|refine gJ ?_|refine go1 ?_|refine uJ (K80 h80 _ _ _ _) ?_|refine uJ (K108 h108 _ _ _ _ _) ?_|(refine go2 ?_ ?_<;>intro hh)|fail)
   all_goals (simp only[rV Tryz.func48,Tryz.results48];first|exact J5|refine J6 ?_)
  cases a3:decide (IntKind.i64.wrap (d.chi - d.clo)>5)with
  |true=>
   have hfin:=HNO.out (by rw[HMB.out,hpd,a1,a2,a3];simp);rw[hfin];clear hfin hpd;repeat' (first|refine gJ ?_|refine go1 ?_|refine uJ (K80 h80 _ _ _ _) ?_|refine uJ (K108 h108 _ _ _ _ _) ?_|(refine go2 ?_ ?_<;>intro hh)|fail)
   all_goals (simp only[rV Tryz.func48,Tryz.results48];first|exact J5|refine J6 ?_)
  | false =>
   cases a4:(decide (d.parent<0)&&(d.chi !=0))with
   |true=>
    have hfin:=HNO.out (by rw[HMB.out,hpd,a1,a2,a3,a4];simp);rw[Bool.and_eq_true]at a4;obtain⟨b1,b2⟩:=a4;rw[hfin];clear hfin hpd;repeat' (first|refine gJ ?_|refine go1 ?_|refine uJ (K80 h80 _ _ _ _) ?_|refine uJ (K108 h108 _ _ _ _ _) ?_|(refine go2 ?_ ?_<;>intro hh)|fail)
    all_goals (simp only[rV Tryz.func48,Tryz.results48];first|exact J5|refine J6 ?_)
   | false =>
    have hb4:(decide (d.parent<0)=true/\(d.chi !=0)=false)\/decide (d.parent<0)=false:=by
     rw[Bool.and_eq_false_iff]at a4;cases hq:decide (d.parent<0)with
     |false=>exact .inr rfl
     |true=>rw[hq]at a4;exact .inl ⟨rfl,a4.resolve_left (by decide)⟩
    cases a5:decide ((d.marks.length:Int)>4)with
    | true =>
     have hfin:=HNO.out (by rw[HMB.out,hpd,a1,a2,a3,a4,a5];simp);rw[hfin];clear hfin hpd a4;rcases hb4 with⟨b1,b2⟩|b1
     all_goals (
      repeat' (first|refine gJ ?_|refine go1 ?_|refine uJ (K80 h80 _ _ _ _) ?_|refine uJ (K108 h108 _ _ _ _ _) ?_|(refine go2 ?_ ?_<;>intro hh)|fail)
      all_goals (simp only[rV Tryz.func48,Tryz.results48];first|exact J5|refine J6 ?_))
    | false =>
     cases a6:inB d.loans.length 1 3 with
     | false =>
      have hfin:=HNO.out (by rw[HMB.out,hpd,a1,a2,a3,a4,a5,a6];simp);rw[hfin];clear hfin hpd a4;rcases hb4 with⟨b1,b2⟩|b1
      all_goals (
       repeat' (first|refine gJ ?_|refine go1 ?_|refine uJ (K80 h80 _ _ _ _) ?_|refine uJ (K108 h108 _ _ _ _ _) ?_|(refine go2 ?_ ?_<;>intro hh)|fail)
       all_goals (simp only[rV Tryz.func48,Tryz.results48];first|exact J5|refine J6 ?_))
     | true =>
      have hpre:preB d.parent d.clo d.chi d.marks.length d.loans.length k=true:=by rw[hpd,a1,a2,a3,a4,a5,a6];rfl
      have hrest:mdOk d k=(d.marks.all (fun x=>!badM x)&&d.loans.all (fun x=>!badL x)):=by rw[HMB.out,hpre,Bool.true_and]
      have HR:=J1 hrest;have ht0:(d.marks.take 0).all (fun x=>!badM x)=true:=by simp
      have ht1:(d.loans.take 0).all (fun x=>!badL x)=true:=by simp
      have HT0:=J1 ht0;have HT1:=J1 ht1;clear ht0 ht1;clear hpre hrest a4 hpd;rcases hb4 with⟨b1,b2⟩|b1
      all_goals (
       repeat' (first|refine gJ ?_|refine go1 ?_|refine uJ (K80 h80 _ _ _ _) ?_|refine uJ (K108 h108 _ _ _ _ _) ?_|(refine go2 ?_ ?_<;>intro hh)|fail)
       clear a1 a2 a3 a5 a6 b1 HMB hix
       try clear b2
       refine W.loopH (d.marks.length) [1,3,4] [1,4] (fun j e1 lm1=>e1.get 5=some (.int .i64 ↑j)/\(d.marks.take j).all (fun x=>!badM x)=true) ?_ ?_
       ·skip
        refine⟨?_,HT0.out⟩;simp[go_sem, *]
       intro j e1 lm1 hk1 hce hcl hinv;simp only[keepE,and_true]at hce;obtain⟨c1,c3,c4⟩:=hce;simp only[go_sem, *,Nat.reduceBEq,Nat.reduceEqDiff,reduceIte]at c1 c3 c4;simp only[keepL,and_true]at hcl;obtain⟨d1,d4⟩:=hcl;simp only[go_sem, *,Nat.reduceBEq,Nat.reduceEqDiff,reduceIte]at d1 d4;obtain⟨h5,hal⟩:=hinv;by_cases hjt:j<d.marks.length
       ·have hd1:=dT hjt
        have hv_1:=wrap_succ hjt mm;obtain⟨x,hx⟩:=get_some hjt;have hix2:=fun H=>mks_idx HV1.out hx H;have hnx:=all_atF hx hal;have hbm:badM x=(!(inB x.spot 0 7)||!(spB x.lo x.hi 1 36)):=rfl;have hnm:badM x=true->bookP l l.length=false:=fun e=>HNO.out (by rw[HR.out,all_no hx (by rw[e];rfl),Bool.false_and]);have HNX:=J1 hnx;have HNM:=J1 hnm;have HLT1:=J1 hjt;clear hx hnx hnm hal hjt;cases e1:inB x.spot 0 7 with
        |false=>
         have hfin:=HNM.out (by rw[hbm,e1];rfl);rw[hfin];clear hfin hbm;repeat' (first|refine gJ ?_|refine go1 ?_|refine uJ (K80 h80 _ _ _ _) ?_|refine uJ (K108 h108 _ _ _ _ _) ?_|(refine go2 ?_ ?_<;>intro hh)|fail)
         all_goals (simp only[rV Tryz.func48,Tryz.results48];first|exact J5|refine J6 ?_)
        | true =>
         cases e2:spB x.lo x.hi 1 36 with
         |false=>
          have hfin:=HNM.out (by rw[hbm,e1,e2];rfl);rw[hfin];clear hfin hbm;repeat' (first|refine gJ ?_|refine go1 ?_|refine uJ (K80 h80 _ _ _ _) ?_|refine uJ (K108 h108 _ _ _ _ _) ?_|(refine go2 ?_ ?_<;>intro hh)|fail)
          all_goals (simp only[rV Tryz.func48,Tryz.results48];first|exact J5|refine J6 ?_)
         |true=>
          rw[e1,e2]at hbm;have HBM:=J1 hbm;clear hbm;repeat' (first|refine gJ ?_|refine go1 ?_|refine uJ (K80 h80 _ _ _ _) ?_|refine uJ (K108 h108 _ _ _ _ _) ?_|(refine go2 ?_ ?_<;>intro hh)|fail)
          all_goals refine contH_mk (by first|assumption|exact HLT1.out|exact HLT0.out) J7 J8 ?_
          all_goals refine⟨?_,?_⟩
          all_goals first|exact Z2|skip
          all_goals (rw[HNX.out,HBM.out];rfl)
       ·have hd1 := dF hjt
        obtain rfl:j=d.marks.length:=by omega
        rw[List.take_length]at hal;have hrest:mdOk d k=d.loans.all (fun x=>!badL x):=by rw[HR.out,hal,Bool.true_and]
        have HR2:=J1 hrest;clear hal hrest;repeat' (first|refine goS ?_|(refine go2 ?_ ?_<;>intro hh)|fail)
        refine W.loopH (d.loans.length) [1,3,4] [1,4] (fun i e2 lm2=>e2.get 6=some (.int .i64 ↑i)/\(d.loans.take i).all (fun x=>!badL x)=true) ?_ ?_
        ·skip
         refine⟨?_,HT1.out⟩;simp[go_sem, *]
        intro i e2 lm2 hk2 hce hcl hinv;simp only[keepE,and_true]at hce;obtain⟨c1,c3,c4⟩:=hce;simp only[go_sem, *,Nat.reduceBEq,Nat.reduceEqDiff,reduceIte]at c1 c3 c4;simp only[keepL,and_true]at hcl;obtain⟨d1,d4⟩:=hcl;simp only[go_sem, *,Nat.reduceBEq,Nat.reduceEqDiff,reduceIte]at d1 d4;obtain⟨h6,hal⟩:=hinv;by_cases hit:i<d.loans.length
        ·have hd2:=dT hit
         have hv_2:=wrap_succ hit ml;obtain⟨x,hx⟩:=get_some hit;have hix2:=fun H=>lns_idx HV2.out hx H;have hnx:=all_atF hx hal;have hbm:badL x=(!(inB x.house 0 5)||!(spB x.slo x.shi 0 12)||!(spB x.flo x.fhi 0 99)):=rfl;have hnm:badL x=true->bookP l l.length=false:=fun e=>HNO.out (by rw[HR2.out,all_no hx (by rw[e];rfl)]);have HNX:=J1 hnx;have HNM:=J1 hnm;have HLT2:=J1 hit;obtain⟨g7,hg7⟩:∃gg,nextGen lm2 7=gg:=⟨_,rfl⟩;unfold nextGen at hg7;clear hx hnx hnm hal hit;cases e1:inB x.house 0 5 with
         |false=>
          have hfin:=HNM.out (by rw[hbm,e1];rfl);rw[hfin];clear hfin hbm;repeat' (first|refine gJ ?_|refine go1 ?_|refine uJ (K80 h80 _ _ _ _) ?_|refine uJ (K108 h108 _ _ _ _ _) ?_|(refine go2 ?_ ?_<;>intro hh)|fail)
          all_goals (simp only[rV Tryz.func48,Tryz.results48];first|exact J5|refine J6 ?_)
         | true =>
          cases e2:spB x.slo x.shi 0 12 with
          |false=>
           have hfin:=HNM.out (by rw[hbm,e1,e2];rfl);rw[hfin];clear hfin hbm;repeat' (first|refine gJ ?_|refine go1 ?_|refine uJ (K80 h80 _ _ _ _) ?_|refine uJ (K108 h108 _ _ _ _ _) ?_|(refine go2 ?_ ?_<;>intro hh)|fail)
           all_goals (simp only[rV Tryz.func48,Tryz.results48];first|exact J5|refine J6 ?_)
          | true =>
           cases e3:spB x.flo x.fhi 0 99 with
           |false=>
            have hfin:=HNM.out (by rw[hbm,e1,e2,e3];rfl);rw[hfin];clear hfin hbm;repeat' (first|refine gJ ?_|refine go1 ?_|refine uJ (K80 h80 _ _ _ _) ?_|refine uJ (K108 h108 _ _ _ _ _) ?_|(refine go2 ?_ ?_<;>intro hh)|fail)
            all_goals (simp only[rV Tryz.func48,Tryz.results48];first|exact J5|refine J6 ?_)
           |true=>
            rw[e1,e2,e3]at hbm;have HBM:=J1 hbm;clear hbm;repeat' (first|refine gJ ?_|refine go1 ?_|refine uJ (K80 h80 _ _ _ _) ?_|refine uJ (K108 h108 _ _ _ _ _) ?_|(refine go2 ?_ ?_<;>intro hh)|fail)
            all_goals refine contH_mk (by first|assumption|exact HLT2.out|exact HLT0.out) J7 J8 ?_
            all_goals refine⟨?_,?_⟩
            all_goals first|exact Z2|skip
            all_goals (rw[HNX.out,HBM.out];rfl)
        ·have hd2:=dF hit
         obtain rfl:i=d.loans.length:=by omega
         rw[List.take_length]at hal;have hmd:mdOk d k=true:=by rw[HR2.out,hal]
         have hok:MdsOk l (k+1):=fun j e hj he=>by
          by_cases q:j=k
          ·subst q;rw[HD.out]at he;cases he;exact hmd
          ·exact(bookP_at HP.out (by omega) he).1
         have hnk:bookP l (k+1)=lineOk l k:=by rw[bookP_next HD.out,hmd,HP.out];simp
         have hkl:=HLT.out;have hmx:=HX.out;have hbd:k+1 <=maxL:=by omega
         have hsp:∀jx∈lineM l (k:Int),0 <=jx.2.spot/\jx.2.spot <=7:=fun jx hj=>line_spot hbd (by omega) hok (m:=(k:Int)) (by omega) (by omega) hj;have hdup:=line_dup hsp;have hll:=line_len hbd hok (by omega) (m:=(k:Int)) (by omega) (by omega);have k109:=C109 (c:=c) hc1 hc2 mi gh sa l HM.out (k+1) (hok.wf hbd) (by omega) (k:Int) (by omega) (by omega) (by have:=HL5.out;omega) hp;unfold ClR at k109;obtain⟨r,k109,⟨bn,bm⟩,v,hx1,rfl,hB⟩:=k109;have hse:spotL (lineM l (k:Int))=intsE (spotI (lineM l (k:Int))):=by unfold spotL spotI;rfl
         rw[hse]at hB;generalize spotI (lineM l (k:Int))=xs at *;have vo:=hB.blt.out;have vl:=hB.blt.len;have vc:=hB.blt.cells;have vt:=hB.blt.tup;rw[intsE_len]at vl;simp only[AV.cells]at vc;simp only[isTuple]at vt;have hxl:xs.length <=maxL:=by
          have:=congrArg List.length hse;rw[intsE_len]at this;unfold spotL at this;rw[intsE_len,List.length_map]at this;have:=HL5.out;unfold maxL;omega
         have HB:=J1 hB;have HNK:=J1 hnk;have HDUP:=J1 hdup;have HXL:=J1 hxl;have hn0:(xs.take 0).Nodup:=by simp
         have HN0:=J1 hn0;clear hal hmd hok hnk hkl hmx hbd hsp hdup hll hx1 hse hB hxl hn0;repeat' (first|refine goS ?_|refine uJ k109 ?_|(refine go2 ?_ ?_<;>intro hh)|fail)
         refine W.loopH (xs.length) [1,3,8] [1] (fun m e3 lm3=>e3.get 9=some (.int .i64 ↑m)/\(xs.take m).Nodup) ?_ ?_
         ·skip
          refine⟨?_,HN0.out⟩;simp[go_sem, *]
         intro m e3 lm3 hk3 hce hcl hinv;simp only[keepE,and_true]at hce;obtain⟨c1,c3,c8⟩:=hce;simp only[go_sem, *,Nat.reduceBEq,Nat.reduceEqDiff,reduceIte]at c1 c3 c8;simp only[keepL,and_true]at hcl;have d1:=hcl;clear hcl;simp only[go_sem, *,Nat.reduceBEq,Nat.reduceEqDiff,reduceIte]at d1;obtain⟨h9,nd⟩:=hinv;by_cases hmt:m<xs.length
         ·have hd3:=dT hmt
          have hv_3:=wrap_succ hmt HXL.out;obtain⟨x,hx⟩:=get_some hmt;have hat:(intsE xs)[m]? =some (.int .i64 x):=by unfold intsE;rw[List.getElem?_map,hx];rfl
          obtain⟨id,e1,e2,_,_⟩:=bltN_at HB.out hat;simp only[hp_get]at e2;have hri:=rw_idx (H:=⟨bn,bm⟩) e2 hat;rw[<-e1]at hri;have HXJ:=J1 hx;have ND:=J1 nd;have HLT3:=J1 hmt;have HE1:=J1 e1;have hi0:x∉xs.take 0:=by simp
          have HI0:=J1 hi0;clear hx nd hi0 e1;repeat' (first|refine goS ?_|(refine go2 ?_ ?_<;>intro hh)|fail)
          refine W.loopH (m) [1,3,8,9] [1] (fun n e4 lm4=>e4.get 10=some (.int .i64 ↑n)/\x∉xs.take n) ?_ ?_
          ·skip
           refine⟨?_,HI0.out⟩;simp[go_sem, *]
          intro n e4 lm4 hk4 hce hcl hinv;simp only[keepE,and_true]at hce;obtain⟨c1,c3,c8,c9⟩:=hce;simp only[go_sem, *,Nat.reduceBEq,Nat.reduceEqDiff,reduceIte]at c1 c3 c8 c9;simp only[keepL,and_true]at hcl;have d1:=hcl;clear hcl;simp only[go_sem, *,Nat.reduceBEq,Nat.reduceEqDiff,reduceIte]at d1;obtain⟨h10,ni⟩:=hinv;by_cases hnt:n<m
          ·have hd4:=dT hnt
           have hv_4:=wrap_succ hnt (by have:=HLT3.out;have:=HXL.out;omega);obtain⟨y,hy⟩:=get_some (l:=xs) (k:=n) (by have:=HLT3.out;omega);have hay:(intsE xs)[n]? =some (.int .i64 y):=by unfold intsE;rw[List.getElem?_map,hy];rfl
           have hriy:=rw_idx (H:=⟨bn,bm⟩) e2 hay;rw[<-HE1.out]at hriy;have HLT4:=J1 hnt;by_cases hxy:y=x
           ·have hno:=nodup_no HXJ.out (hy.trans (by rw[hxy])) HLT4.out
            have hlo:lineOk l k=false:=by
             cases hq:lineOk l k with
             |false=>rfl
             |true=>exact absurd (HDUP.out.1 hq) hno
            have hfin:bookP l l.length=false:=bookP_no (k:=k+1) (HNK.out.trans hlo) (by have:=HLT.out;omega);rw[hfin];have hee:(y==x)=true:=by simpa using hxy
            clear hno hlo hfin ni hy hxy hnt;repeat' (first|(apply W.drawQ (id:=27) (l1:=[0,1,2,3,4,5,6,7,8]) (l2:=[]);kernel_rfl;kernel_rfl;kernel_rfl;exact Z4)|refine go1 ?_|(refine go2 ?_ ?_<;>intro hh)|fail)
            all_goals (simp only[rV Tryz.func48,Tryz.results48];first|exact J5|refine J6 ?_)
           ·have hnn:=notin_next hy ni hxy
            have HNN:=J1 hnn;have hee:(y==x)=false:=by simpa using hxy
            clear hnn ni hy hxy hnt;repeat' (first|(apply W.drawQ (id:=27) (l1:=[0,1,2,3,4,5,6,7,8]) (l2:=[]);kernel_rfl;kernel_rfl;kernel_rfl;exact Z4)|refine go1 ?_|(refine go2 ?_ ?_<;>intro hh)|fail)
            all_goals refine contH_mk (by first|assumption|exact HLT4.out|exact HLT0.out) J7 J8 ?_
            all_goals refine⟨?_,?_⟩
            all_goals first|exact Z2|skip
            all_goals exact HNN.out
          ·have hd4:=dF hnt
           obtain rfl:n=m:=by omega
           have hnn:=nodup_next HXJ.out ND.out ni;have HNN:=J1 hnn;clear hnn ni hmt;repeat' (first|refine goS ?_|(refine go2 ?_ ?_<;>intro hh)|fail)
           all_goals refine contH_mk (by first|assumption|exact HLT3.out|exact HLT0.out) J7 J8 ?_
           all_goals refine⟨?_,?_⟩
           all_goals first|exact Z2|skip
           all_goals exact HNN.out
         ·have hd3:=dF hmt
          obtain rfl:m=xs.length:=by omega
          rw[List.take_length]at nd;have hnn:bookP l (k+1)=true:=HNK.out.trans (HDUP.out.2 nd);have HNN:=J1 hnn;have HLT0:=HLT;clear hnn nd;repeat' (first|refine goS ?_|(refine go2 ?_ ?_<;>intro hh)|fail)
          all_goals refine contV_mk J9 J7 J8 ?_
          all_goals refine⟨?_,HNN.out⟩
          all_goals first|exact Z2|skip
       done)
 ·have hd0:=dF hlt
  obtain rfl:k=l.length:=by omega
  rw[hp0];clear hp0;repeat' (first|refine goS ?_|(refine go2 ?_ ?_<;>intro hh)|fail)
  all_goals (simp only[rV Tryz.func48,Tryz.results48];first|exact J5|refine J6 ?_)
end
def sp48:List AV->Option AV
 | [a]=>(bkV a).map fun b=>.bool (bookB b)
 |_=>none
theorem p48:∀args v,sp48 args=some v->v.pur=true:=by
 intro args v h;unfold sp48 at h;split at h
 ·rw[Option.map_eq_some_iff]at h
  obtain⟨b,_,rfl⟩:=h;rfl
 ·cases h
noncomputable def cSF:Itr
 |80=>some (pureFn sp80)
 |108=>some (pureFn sp108)
 |_=>none
theorem cSF_sound:Sound (dX cSF):=dX_sound (fun f g h=>by
 unfold cSF at h;split at h
 ·cases h;exact F80
 ·cases h;exact F108
 ·cases h)
theorem F48:IntrFn Tryz.prog 48 (pureFn sp48):=by
 refine pure_fn (X:=dX cSF) cSF_sound p48 ?_;intro args v h;unfold sp48 at h;split at h
 ·rw[Option.map_eq_some_iff]at h
  obtain⟨b,hb,rfl⟩:=h;obtain⟨sa,rfl,hm⟩:=bk_is hb;exact C48 (c:=cSF) rfl rfl rfl rfl rfl b.miss b.ghost sa b.moulds hm _
 ·cases h
theorem K48{X:Ctx}(hX:X.intr 48=some (pureFn sp48)){a:AV}{b:Bk}(hb:bkV a=some b)(h:Heap):Cl X 48 [a] h (.ret (.bool (bookB b)) h none):=
 Cl.intr hX (by simp only[pureFn,AV.purL,bk_pur hb,Bool.and_self,if_true,sp48,hb,Option.map_some])
end
section
open Go.Mo7 (insR)
attribute [local irreducible] dayA dayB insR houseF lisN natsE
theorem all_part{α:Type}{p:α->Bool}{l:List α}{k:Nat}{x:α}(h:l[k]? =some x)(ha:(l.take k).all p=true):(l.take (k+1)).all p=p x:=by rw[take_next h,List.all_append,ha];simp
section
variable{c:Itr}
theorem C53(hc:c 53=none)(hc1:c 95=none)(mi gh:Int)(sa:AV)(l:List Md)(hm:MdsV sa l)(h:Heap) :
  Cl (dX c) 53 [.agg [.int .i64 mi,.int .i64 gh,sa]] h (.ret (.bool (allDays l)) h none):=by
 refine ClR.cl ?_;have os:=hm.out;have hlen:=hm.len;have hmax:=hm.max;have HM:=J1 hm;have HX:=J1 hmax;have ht0:(l.take 0).all (fun d=>daysOk d.loans)=true:=by simp
 have HT0:=J1 ht0;have had:allDays l=l.all (fun d=>daysOk d.loans):=rfl;have HAD:=J1 had;clear hm ht0 had;refine ClR.walk (c:=_) hc Tryz.func53 rfl (by kernel_rfl) rfl (fun e=>by cases e) ?_
 try simp only[entryEnv,Nat.reduceAdd,List.nil_append,List.cons_append,emptyHp]
 repeat' (first|refine goS ?_|(refine go2 ?_ ?_<;>intro hh)|fail)
 refine W.loopH (l.length) [1] [1] (fun k e lm=>e.get 3=some (.int .i64 ↑k)/\(l.take k).all (fun d=>daysOk d.loans)=true) ?_ ?_
 ·skip
  refine⟨?_,HT0.out⟩;simp[go_sem, *]
 intro k e lm hk0 hce hcl hinv;simp only[keepE,and_true]at hce;have c1:=hce;clear hce;simp only[go_sem, *,Nat.reduceBEq,Nat.reduceEqDiff,reduceIte]at c1;simp only[keepL,and_true]at hcl;have d1:=hcl;clear hcl;simp only[go_sem, *,Nat.reduceBEq,Nat.reduceEqDiff,reduceIte]at d1;obtain⟨h3,hal⟩:=hinv;by_cases hlt:k<l.length
 ·have hd0:=dT hlt
  have hv_0:=wrap_succ hlt HX.out;obtain⟨d,hd⟩:=get_some hlt;obtain⟨ma,la,v1,v2,hix⟩:=HM.out.elem _ _ hd;have om:=sl_out v1;have ol:=sl_out v2;have ll1:=sl_len v2;have ml:=sl_max v2;have k95:=fun(n:Nat) (hn:n<d.loans.length) (h:Heap)=>C95 hc1 d.parent d.clo d.chi ma la om d.loans v2 n hn h;have hnx:=all_part hd hal;have hno:daysOk d.loans=false->allDays l=false:=fun e=>by
   rw[HAD.out,List.all_eq_false];exact⟨d,List.mem_of_getElem? hd,by rw[e];decide⟩
  obtain⟨g4,hg4⟩:∃gg,nextGen lm 4=gg:=⟨_,rfl⟩;unfold nextGen at hg4;have hq0:∀i,i<0->dayB d.loans i=true:=fun i hi=>absurd hi (Nat.not_lt_zero _);have HQ0:=J1 hq0;have K95:=J1 k95;have HNX:=J1 hnx;have HNO:=J1 hno;have HV2:=J1 v2;have HLT0:=J1 hlt;clear v1 v2 hd hnx hno hal hlt k95 hq0;repeat' (first|refine goS ?_|(refine go2 ?_ ?_<;>intro hh)|fail)
  refine W.loopH (d.loans.length) [1,3,4] [1,4] (fun j e1 lm1=>e1.get 5=some (.int .i64 ↑j)/\∀i,i<j->dayB d.loans i=true) ?_ ?_
  ·skip
   refine⟨?_,HQ0.out⟩;simp[go_sem, *]
  intro j e1 lm1 hk1 hce hcl hinv;simp only[keepE,and_true]at hce;obtain⟨c1,c3,c4⟩:=hce;simp only[go_sem, *,Nat.reduceBEq,Nat.reduceEqDiff,reduceIte]at c1 c3 c4;simp only[keepL,and_true]at hcl;obtain⟨d1,d4⟩:=hcl;simp only[go_sem, *,Nat.reduceBEq,Nat.reduceEqDiff,reduceIte]at d1 d4;obtain⟨h5,hq⟩:=hinv;by_cases hjt:j<d.loans.length
  ·have hd1:=dT hjt
   have hv_1:=wrap_succ hjt ml;obtain⟨x,hx⟩:=get_some hjt;have hix2:=fun H=>lns_idx HV2.out hx H;have k95:=K95.out j hjt;have hdb:dayB d.loans j=decide (dayA d.loans (j+1) <=x.fhi):=by unfold dayB;rw[hx]
   have HQ:=J1 hq;have HLT1:=J1 hjt;have HDB:=J1 hdb;clear hx hq hdb hjt;cases hg:decide (dayA d.loans (j+1)>x.fhi)with
   | true =>
    have hfin:allDays l=false:=HNO.out (by
     unfold daysOk;rw[List.all_eq_false];refine⟨j,List.mem_range.2 HLT1.out,?_⟩;rw[HDB.out];simp only[decide_eq_true_eq]at hg ⊢;omega)
    rw[hfin];clear hfin;repeat' (first|(apply W.drawQ (id:=8) (l1:=[0,1,2,3,4,5,6,7,8,9,10]) (l2:=[]);kernel_rfl;kernel_rfl;kernel_rfl;exact Z4)|refine go1 ?_|refine uJ (k95 _) ?_|(refine go2 ?_ ?_<;>intro hh)|fail)
    all_goals (simp only[rV Tryz.func53,Tryz.results53];first|exact J5|refine J6 ?_)
    all_goals rfl
   | false =>
    have hqn:∀i,i<j+1->dayB d.loans i=true:=fun i hi=>by
     by_cases e:i=j
     ·subst e
      rw[HDB.out];simp only[decide_eq_false_iff_not,decide_eq_true_eq]at hg ⊢;omega
     ·exact HQ.out i (by omega)
    have HQN:=J1 hqn;clear hqn;repeat' (first|(apply W.drawQ (id:=8) (l1:=[0,1,2,3,4,5,6,7,8,9,10]) (l2:=[]);kernel_rfl;kernel_rfl;kernel_rfl;exact Z4)|refine go1 ?_|refine uJ (k95 _) ?_|(refine go2 ?_ ?_<;>intro hh)|fail)
    all_goals refine contH_mk (by first|assumption|exact HLT1.out|exact HLT0.out) J7 J8 ?_
    all_goals refine⟨?_,?_⟩
    all_goals first|exact Z2|skip
    all_goals exact HQN.out
  ·have hd1:=dF hjt
   obtain rfl:j=d.loans.length:=by omega
   have hok:daysOk d.loans=true:=by
    unfold daysOk;rw[List.all_eq_true];exact fun i hi=>hq i (List.mem_range.1 hi)
   have HOK:=J1 (HNX.out.trans hok);clear hok hq;repeat' (first|refine goS ?_|(refine go2 ?_ ?_<;>intro hh)|fail)
   all_goals refine contH_mk J9 J7 J8 ?_
   all_goals refine⟨?_,?_⟩
   all_goals first|exact Z2|skip
   all_goals exact HOK.out
 ·have hd0:=dF hlt
  obtain rfl:k=l.length:=by omega
  rw[List.take_length]at hal;rw[HAD.out,hal];clear hal;repeat' (first|refine goS ?_|(refine go2 ?_ ?_<;>intro hh)|fail)
  all_goals (simp only[rV Tryz.func53,Tryz.results53];first|exact J5|refine J6 ?_)
  all_goals rfl
def askI(b:Bk)(is:Bool):Int:=if bookB b=true/\is=true then (if allDays b.moulds=true then 0 else 7)else 2
theorem C23(hc:c 23=none)(hc1:c 53=none)(hc2:c 95=none)(h48:(dX c).intr 48=some (pureFn sp48)){b:Bk}{sa:AV}(hb:bkV (.agg [.int .i64 b.miss,.int .i64 b.ghost,sa])=some b)(hm:MdsV sa b.moulds)(is:Bool)(h:Heap) :
  Cl (dX c) 23 [.agg [.int .i64 b.miss,.int .i64 b.ghost,sa],.bool is] h (.ret (.int .i64 (askI b is)) h none):=by
 refine ClR.cl ?_;have os:=hm.out;have k48:=fun h=>K48 (X:=dX c) h48 hb h;have k53:=fun h=>C53 hc1 hc2 b.miss b.ghost sa b.moulds hm h;clear hm hb;unfold askI;cases h1:bookB b
 ·rw[h1]at k48
  simp only[Bool.false_eq_true,false_and,if_false];refine ClR.walk (c:=_) hc Tryz.func23 rfl (by kernel_rfl) rfl (fun e=>by cases e) ?_
  try simp only[entryEnv,Nat.reduceAdd,List.nil_append,List.cons_append,emptyHp]
  repeat' (first|refine gJ ?_|refine go1 ?_|refine uJ (k48 _) ?_|(refine go2 ?_ ?_<;>intro hh)|fail)
  all_goals (simp only[rV Tryz.func23,Tryz.results23];first|exact J5|refine J6 ?_)
  all_goals rfl
 ·rw[h1]at k48
  cases is
  ·simp only[Bool.false_eq_true,and_false,if_false]
   refine ClR.walk (c:=_) hc Tryz.func23 rfl (by kernel_rfl) rfl (fun e=>by cases e) ?_
   try simp only[entryEnv,Nat.reduceAdd,List.nil_append,List.cons_append,emptyHp]
   repeat' (first|refine goS ?_|refine uJ (k48 _) ?_|(refine go2 ?_ ?_<;>intro hh)|fail)
   all_goals (simp only[rV Tryz.func23,Tryz.results23];first|exact J5|refine J6 ?_)
   all_goals rfl
  ·cases h2:allDays b.moulds
   ·rw[h2]at k53
    simp only[Bool.false_eq_true,and_self,if_true,if_false];refine ClR.walk (c:=_) hc Tryz.func23 rfl (by kernel_rfl) rfl (fun e=>by cases e) ?_
    try simp only[entryEnv,Nat.reduceAdd,List.nil_append,List.cons_append,emptyHp]
    repeat' (first|refine goS ?_|refine uJ (k48 _) ?_|refine uJ (k53 _) ?_|(refine go2 ?_ ?_<;>intro hh)|fail)
    all_goals (simp only[rV Tryz.func23,Tryz.results23];first|exact J5|refine J6 ?_)
    all_goals rfl
   ·rw[h2]at k53
    simp only[and_self,if_true];refine ClR.walk (c:=_) hc Tryz.func23 rfl (by kernel_rfl) rfl (fun e=>by cases e) ?_
    try simp only[entryEnv,Nat.reduceAdd,List.nil_append,List.cons_append,emptyHp]
    repeat' (first|refine goS ?_|refine uJ (k48 _) ?_|refine uJ (k53 _) ?_|(refine go2 ?_ ?_<;>intro hh)|fail)
    all_goals (simp only[rV Tryz.func23,Tryz.results23];first|exact J5|refine J6 ?_)
    all_goals rfl
end
end
section
def sp29:List AV->Option AV
 | [a,b]=>(slV intC a).bind fun l=>(slV intC b).map fun r=>.bool (decide (l=r))
 |_=>none
theorem p29:∀args v,sp29 args=some v->v.flat=true:=by
 intro args v h;unfold sp29 at h;split at h
 ·rw[Option.bind_eq_some_iff]at h
  obtain⟨b,_,h⟩:=h;rw[Option.map_eq_some_iff]at h;obtain⟨g,_,rfl⟩:=h;rfl
 ·cases h
theorem take_all_eq{l r:List Int}{k:Nat}{x y:Int}(hx:l[k]? =some x)(hy:r[k]? =some y)(h:l.take k=r.take k)(e:x=y):l.take (k+1)=r.take (k+1):=by
 rw[take_next hx,take_next hy,h,e]
section
variable{c:Itr}
theorem C29(hc:c 29=none)(la ra:AV)(l r:List Int)(hl:slV intC la=some l)(hr:slV intC ra=some r)(h:Heap):ClR (dX c) 29 [la,ra] h (isRet (.bool (decide (l=r)))):=by
 have ol:=sl_out hl;have ll:=sl_len hl;have ml:=sl_max hl;have or:=sl_out hr;have lr:=sl_len hr;have mr:=sl_max hr;have HL:=J1 hl;have HR:=J1 hr;clear hl hr;by_cases hlen:l.length=r.length
 ·have hn0:((l.length:Int) !=(r.length:Int))=false:=by rw[hlen];simp
  have HLN:=J1 hlen;clear hlen;refine ClR.walk (c:=_) hc Tryz.func29 rfl (by kernel_rfl) rfl isRet_fail ?_
  try simp only[entryEnv,Nat.reduceAdd,List.nil_append,List.cons_append,emptyHp]
  repeat' (first|refine goS ?_|(refine go2 ?_ ?_<;>intro hh)|fail)
  refine W.loopH (l.length) [0,1] [] (fun k e lm=>e.get 5=some (.int .i64 ↑k)/\l.take k=r.take k) ?_ ?_
  ·skip
   refine⟨?_,by simp⟩;simp[go_sem, *]
  intro k e lm hk0 hce hcl hinv;simp only[keepE,and_true]at hce;obtain⟨c0,c1⟩:=hce;simp only[go_sem, *,Nat.reduceBEq,Nat.reduceEqDiff,reduceIte]at c0 c1;clear hcl;obtain⟨h5,hal⟩:=hinv;by_cases hlt:k<l.length
  ·have hd0:=dT hlt
   have hv_0:=wrap_succ hlt ml;obtain⟨x,hx⟩:=get_some hlt;obtain⟨y,hy⟩:=get_some (l:=r) (k:=k) (by have:=HLN.out;omega);have hix:=ints_idx HL.out hx;have hiy:=ints_idx HR.out hy;by_cases hxy:x=y
   ·have hnx:=take_all_eq hx hy hal hxy
    have hne:(x !=y)=false:=by rw[hxy];simp
    have HNX:=J1 hnx;have HLT0:=J1 hlt;clear hx hy hal hnx hxy hlt;repeat' (first|(apply W.drawQ (id:=6) (l1:=[0,1,2,3,4,5,6,7,8]) (l2:=[]);kernel_rfl;kernel_rfl;kernel_rfl;exact Z4)|refine go1 ?_|(refine go2 ?_ ?_<;>intro hh)|fail)
    all_goals refine contH_mk J9 J7 J8 ?_
    all_goals refine⟨?_,?_⟩
    all_goals first|exact Z2|skip
    all_goals exact HNX.out
   ·have hne:(x !=y)=true:=by simpa using hxy
    have hno:decide (l=r)=false:=by
     rw[decide_eq_false_iff_not];rintro rfl;rw[hx]at hy;cases hy;exact hxy rfl
    rw[hno];clear hx hy hal hxy hno hlt;repeat' (first|(apply W.drawQ (id:=6) (l1:=[0,1,2,3,4,5,6,7,8]) (l2:=[]);kernel_rfl;kernel_rfl;kernel_rfl;exact Z4)|refine go1 ?_|(refine go2 ?_ ?_<;>intro hh)|fail)
    all_goals (simp only[rV Tryz.func29,Tryz.results29];first|exact J5|refine J6 ?_)
  ·have hd0:=dF hlt
   obtain rfl:k=l.length:=by omega
   have heq:decide (l=r)=true:=by
    rw[decide_eq_true_eq];have e1:l.take l.length=l:=List.take_length;have e2:r.take l.length=r:=by rw[HLN.out];exact List.take_length
    rw[e1,e2]at hal;exact hal
   rw[heq];clear hal heq;repeat' (first|refine goS ?_|(refine go2 ?_ ?_<;>intro hh)|fail)
   all_goals (simp only[rV Tryz.func29,Tryz.results29];first|exact J5|refine J6 ?_)
 ·have hn0:((l.length:Int) !=(r.length:Int))=true:=by rw[bne_iff_ne];omega
  have hno:decide (l=r)=false:=by
   rw[decide_eq_false_iff_not];rintro rfl;exact hlen rfl
  rw[hno];clear hlen hno;refine ClR.walk (c:=_) hc Tryz.func29 rfl (by kernel_rfl) rfl isRet_fail ?_
  try simp only[entryEnv,Nat.reduceAdd,List.nil_append,List.cons_append,emptyHp]
  repeat' (first|refine goS ?_|(refine go2 ?_ ?_<;>intro hh)|fail)
  all_goals (simp only[rV Tryz.func29,Tryz.results29];first|exact J5|refine J6 ?_)
end
theorem F29:IntrFn Tryz.prog 29 (flatFn sp29):=by
 refine flat_fn (X:=dX i0) i0_sound p29 ?_;intro args v h;unfold sp29 at h;split at h
 ·rw[Option.bind_eq_some_iff]at h
  obtain⟨l,hl,h⟩:=h;rw[Option.map_eq_some_iff]at h;obtain⟨r,hr,rfl⟩:=h;exact C29 (c:=i0) rfl _ _ l r hl hr _
 ·cases h
theorem K29{X:Ctx}(hX:X.intr 29=some (flatFn sp29)){a b:AV}{l r:List Int}{h:Heap}(hl:SeeV h intC a l)(hr:SeeV h intC b r):Cl X 29 [a,b] h (.ret (.bool (decide (l=r))) h none):=by
 obtain⟨a',v1,s1⟩:=hl;obtain⟨b',v2,s2⟩:=hr;exact Cl.intr hX (by simp[flatFn,viewVs,v1,v2,sp29,s1,s2])
end
section
attribute [local irreducible] roundQ RdR patC memP grownS setP cutF birF rightB
open Go.Mo7 (or_lt)
theorem bk_els{sa:AV}{mi gh:Int}{b:Bk}(h:bkV (.agg [.int .i64 mi,.int .i64 gh,sa])=some b)(hne:b.moulds≠[]):∃es,sa= .vslice es/\es.length=b.moulds.length/\(∀e∈es,e.cells.length=5)/\∀(k:Nat) (m:Md),b.moulds[k]? =some m->∃ma la,es[k]? =some (.agg [.int .i64 m.parent,.int .i64 m.clo,.int .i64 m.chi,ma,la])/\slV mkC ma=some m.marks/\slV lnC la=some m.loans:=by
 unfold bkV at h;simp only at h;split at h
 ·rename_i l hl
  split at h
  ·rename_i hok
   have h:=Option.some.inj h;subst h;simp only at hne ⊢;rcases(slV_is hl).1 with⟨_,e⟩|e
   ·simp at e
    subst e;exact absurd rfl hne
   ·refine⟨_,e,by simp,fun x hx=>?_,fun k m hm=>?_⟩
    ·obtain⟨y,_,rfl⟩:=List.mem_map.1 hx
     rfl
    ·rw[List.getElem?_map,Option.map_eq_some_iff]at hm
     obtain⟨x,hx,rfl⟩:=hm;have:=MM.ok_is (List.all_eq_true.1 hok x (List.mem_of_getElem? hx));exact⟨x.ma,x.la,by rw[List.getElem?_map,hx];rfl,this.1,this.2⟩
  ·cases h
 ·cases h
theorem eq22v(es:List AV):binV Tryz.prog .eql 22 true (.vslice es) .nilslice=some (.bool false):=by
 simp[binV,eqOp,eqV,isSliceT,whenB,Tryz.underlying22]
theorem eq73v(es:List AV):binV Tryz.prog .eql 73 true (.vslice es) .nilslice=some (.bool false):=by
 simp[binV,eqOp,eqV,isSliceT,whenB,Tryz.underlying73]
theorem see_row{h:Heap}{mid n3:Nat}{es3:List AV}{ms:List Mk}(hg:h.get mid=some (.rw 3 es3))(he:es3=ms.map mkC.enc)(hn:n3=ms.length)(hm:ms.length <=maxL):SeeV h mkC (.row mid 0 n3) ms:=by
 subst he;subst hn;have hp:=purL_all (enc_pur mkC ms);refine⟨.vslice (ms.map mkC.enc),?_,slV_mk (.inr rfl) hm⟩;have:(ms.map mkC.enc).take ms.length=ms.map mkC.enc:=by rw[List.take_of_length_le (by simp)]
 simp[viewV,hg,this,hp]
theorem K136D{X:Ctx}(hX:X.intr 136=some (flatFnD sp136)){p clo chi:Int}{mr la:AV}{ms:List Mk}{ls:List Ln}{h:Heap}(hm:SeeV h mkC mr ms)(hl:slV lnC la=some ls)(ok:spotsOk ms=true)(s:Int) :
  Cl X 136 [.agg [.int .i64 p,.int .i64 clo,.int .i64 chi,mr,la],.int .i64 s] h (.ret (.tuple [.int .i64 (sureM ms s:Int),.int .i64 (canM ms s:Int)]) h none):=by
 obtain⟨ma,e1,e2⟩:=hm;have pl:=sl_pur hl;have e:∀n:Int,viewV h (.int .i64 n)=some (.int .i64 n):=fun n=>rfl;exact Cl.intr hX (by simp only[flatFnD,viewDs,viewD,viewVs,e,e1,view_p pl,Option.map_some,sp136,e2,hl,ok,if_true])
section
variable{c:Itr}
theorem C103(hc:c 103=none)(es:List AV)(hne:es≠[])(hsz:∀v∈es,v.cells.length=5)(hlen:es.length <=most)(h:Heap):Cl (dX c) 103 [.vslice es] h (.ret (.row h.next 0 es.length) (h.new (.rw 5 es)) none):=by
 refine ClR.cl ?_;have hq:=eq22v es;have hel:h.elems (.vslice es)=some es:=rfl;refine ClR.walk (c:=_) hc Tryz.func103 rfl (by kernel_rfl) rfl (fun e=>by cases e) ?_
 try simp only[entryEnv,Nat.reduceAdd,List.nil_append,List.cons_append,emptyHp]
 repeat' (first|(apply WO1.append0 (t:=22) (u:=22) (e:=76) (e':=76) (sz:=5) (tl:=[]) (new:=es) (hx:=.inl rfl);exact Z1;exact rfl;exact Z2;exact Z2;exact Z2;(focus (exact ty_row22));(focus (first|exact Z2|exact hel));(focus (exact hsz));(focus (exact hlen));(focus (exact hne));simp only[pM,pN])|refine go1 ?_|(refine go2 ?_ ?_<;>intro hh)|fail)
 all_goals (simp only[rV Tryz.func103,Tryz.results103];first|exact J5|refine J6 ?_)
 all_goals rfl
theorem C104(hc:c 104=none)(es:List AV)(hne:es≠[])(hsz:∀v∈es,v.cells.length=3)(hlen:es.length <=most)(h:Heap):Cl (dX c) 104 [.vslice es] h (.ret (.row h.next 0 es.length) (h.new (.rw 3 es)) none):=by
 refine ClR.cl ?_;have hq:=eq73v es;have hel:h.elems (.vslice es)=some es:=rfl;refine ClR.walk (c:=_) hc Tryz.func104 rfl (by kernel_rfl) rfl (fun e=>by cases e) ?_
 try simp only[entryEnv,Nat.reduceAdd,List.nil_append,List.cons_append,emptyHp]
 repeat' (first|(apply WO1.append0 (t:=73) (u:=73) (e:=123) (e':=123) (sz:=3) (tl:=[]) (new:=es) (hx:=.inl rfl);exact Z1;exact rfl;exact Z2;exact Z2;exact Z2;(focus (exact ty_row73));(focus (first|exact Z2|exact hel));(focus (exact hsz));(focus (exact hlen));(focus (exact hne));simp only[pM,pN])|refine go1 ?_|(refine go2 ?_ ?_<;>intro hh)|fail)
 all_goals (simp only[rV Tryz.func104,Tryz.results104];first|exact J5|refine J6 ?_)
 all_goals rfl
theorem C101r(cx:CxG c)(mi gh:Int)(dv bv:AV)(o1:outV (some dv)=some dv)(l:List Md)(m:Nat)(hml:m<l.length)(ms:List Mk)(hok:spotsOk ms=true)(s:Int)(seen:Nat)(hsn:seen<256)
  (hn:Nat) (hm0:Mp Blk) (hO:OpO l dv bv ⟨hn,hm0⟩) (sid mid n5 n3:Nat) (es5 es3:List AV) (p clo chi:Int) (la:AV) (ls:List Ln) (v2:slV lnC la=some ls) (hn5:m<n5) (gs:hm0.get sid=some (.rw 5 es5)) (ges:es5[m]? =some (.agg [.int .i64 p,.int .i64 clo,.int .i64 chi,.row mid 0 n3,la])) (gmr:hm0.get mid=some (.rw 3 es3)) (hes3:es3=ms.map mkC.enc) (hn3:n3=ms.length) (hm3:ms.length <=maxL) (ls1:sid<hn) (lm1:mid<hn) :
  ClR (dX c) 101 [.agg [.int .i64 mi,.int .i64 gh,.row sid 0 n5,dv,bv,.int .i64 (m:Int),.int .i64 s],.int .i64 (seen:Int)] ⟨hn,hm0⟩ (valR (.bool (agrN mi gh (birthN l m) (sureM ms s) (canM ms s) seen)) ⟨hn,hm0⟩):=by
 have os:outV (some (.row sid 0 n5))=some (.row sid 0 n5):=rfl;have ol:=sl_out v2;have hix:=fun hx (e:Heap.get hx sid=some (.rw 5 es5))=>row_idx (t:=22) (e:=76) Tryz.underlying22 ty_lay76 e hn5;have f0:(hn==sid)=false:=by rw[beq_eq_false_iff_ne];omega
 have f1:(hn+1==sid)=false:=by rw[beq_eq_false_iff_ne];omega
 have f2:(hn+1+1==sid)=false:=by rw[beq_eq_false_iff_ne];omega
 have hsee:SeeV ⟨hn+1+1+1,((hm0.set hn (.var [.int .i64 mi,.int .i64 gh,.row sid 0 n5,dv,bv,.int .i64 (m:Int),.int .i64 s])).set (hn+1) (.var [.int .i64 (seen:Int)])).set (hn+1+1) (.var [.bool false])⟩ mkC (.row mid 0 n3) ms:=by
  have hg:Heap.get ⟨hn+1+1+1,((hm0.set hn (.var [.int .i64 mi,.int .i64 gh,.row sid 0 n5,dv,bv,.int .i64 (m:Int),.int .i64 s])).set (hn+1) (.var [.int .i64 (seen:Int)])).set (hn+1+1) (.var [.bool false])⟩ mid=some (.rw 3 es3):=by
   (simp only[Heap.get_new,Heap.get_put,hp_get,Mp.get_set,reduceIte];repeat (first|rw[if_pos rfl]|rw[if_neg (by omega)]))
   exact gmr
  refine see_row hg hes3 hn3 hm3
 have k136:=K136D (X:=dX c) cx.h136 (p:=p) (clo:=clo) (chi:=chi) hsee v2 hok s;obtain⟨rid,pid,els,⟨hrow,g1,g2,g3,l1,l2⟩⟩:=hO.bir hml;subst hrow;have hib:=fun hx (e:Heap.get hx rid=some (.rw 1 els))=>row_idx (t:=111) (e:=161) Tryz.underlying111 ty_lay161 e hml;simp only at l1 l2;simp only[hp_get]at g1 g3;have r0:(hn==rid)=false:=by rw[beq_eq_false_iff_ne];omega
 have r1:(hn+1==rid)=false:=by rw[beq_eq_false_iff_ne];omega
 have r2:(hn+1+1==rid)=false:=by rw[beq_eq_false_iff_ne];omega
 have r3:(hn+1+1+1==rid)=false:=by rw[beq_eq_false_iff_ne];omega
 have r4:(hn+1+1+1+1==rid)=false:=by rw[beq_eq_false_iff_ne];omega
 have b1:=(maskS_nat hok s).2;have b2:=(maskC_nat hok s).2;have k141:=fun x y (hx:x<256) (hy:y<256) h=>C141 cx.h141 cx.h165 cx.h166 cx.h146 cx.h171 mi gh (.row sid 0 n5) dv (.row rid 0 l.length) os o1 rfl seen x y hsn hx hy h;have K141:=J1 k141;unfold birthN;have hc:=cx.h101;generalize sureM ms s=su at *;generalize canM ms s=ca at *;have hfa:=fold_agr mi gh su ca seen (memP (birF l m) 256);have HFA:=J1 hfa;clear hok v2 k141 hfa hsee hes3 hn3 hm3 gmr;refine ClR.walk (c:=_) hc Tryz.func101 rfl (by kernel_rfl) rfl valR_fail ?_
 try simp only[entryEnv,Nat.reduceAdd,List.nil_append,List.cons_append,emptyHp]
 repeat' (first|(apply W.drawH (id:=1) (lc:=[14,15,0,1,2,3,4,5,6,7,8,9,10,11,12,13,16,17]) (hot:=[]) (sl:=[6,5]);kernel_rfl;kernel_rfl;kernel_rfl;kernel_rfl;kernel_rfl;kernel_rfl;exact Z4)|(apply WD.cons (o:=⟨some 17,_,_,_,_,none⟩);exact rfl;exact rfl)|(apply WD.cons (o:=⟨some 18,_,_,_,_,none⟩);exact rfl;exact rfl)|(apply WD.cons (o:=⟨some 19,_,_,_,_,none⟩);exact rfl;exact rfl)|(apply WD.cons (o:=⟨some 8,_,_,_,_,none⟩);exact rfl;exact rfl)|(apply WD.cons (o:=⟨some 20,_,_,_,_,none⟩);exact rfl;exact rfl)|(apply WD.cons (o:=⟨some 21,_,_,_,_,none⟩);exact rfl;exact rfl)|(apply WD.alloc (o:=⟨some 5,.alloc 3,0,_,_,none⟩);exact rfl;exact rfl;exact Z1;simp only[pM,pN])|(apply WD.alloc (o:=⟨some 6,.alloc 3,0,_,_,none⟩);exact rfl;exact rfl;exact Z1;simp only[pM,pN])|(apply WD.cons (o:=⟨none,.store 3 (.tmp 5) (.tmp 20),_,_,_,none⟩);exact rfl;exact rfl)|(apply WD.cons (o:=⟨none,.store 3 (.tmp 6) (.tmp 21),_,_,_,none⟩);exact rfl;exact rfl)|(refine WD.cons rfl rfl ?_)|(apply WD.nil;refine⟨rfl,?_⟩;apply prom_ex;(focus (simp only[go_sem, *,Nat.reduceLT,Int.reduceEq,Int.reduceBEq,Int.reduceLE,Int.reduceLT,Nat.reduceAdd,Nat.reduceBEq,Nat.reduceEqDiff,reduceIte,Nat.reduceLeDiff,Nat.reduceMul,Nat.reduceSub,reduceCtorEq,promoteAll,promote1,and_self,if_true];with_reducible rfl));simp only[tN,bN,eN,true_and])|refine go1 ?_|refine uJ k136 ?_|(refine go2 ?_ ?_<;>intro hh)|fail)
 refine W.rangeSt (fid:=137) (first:=[.ptr pid 0]) (capt:=[]) SamI (EndD ⟨hn,hm0⟩ (hn+1+1) (hn+1+1+1+1+1)) (foldS (stepA mi gh su ca seen) (memP (birF l m) 256) ()) (by rfl) ?_ ?_ ?_ ?_ ?_
 ·first|exact Z2|exact Z1
 ·refine C137 _ _ _ cx.h137 (birF l m) pid (hn+1+1+1+1+1) ?_ ?_ () _ ⟨rfl,fun _=>rfl⟩
  ·intro s h hs
   rw[hs.2 pid]
   (simp only[Heap.get_new,Heap.get_put,hp_get,Mp.get_set,reduceIte];repeat (first|rw[if_pos rfl]|rw[if_neg (by omega)]))
   exact g3
  ·intro n u h hn1 hn2 hs
   have hL0:=hs.2 (hn+1+1+1+1+1);rw[Heap.get_new,if_pos rfl]at hL0;obtain⟨er,hE,hL⟩:∃er,er=_/\h.get (hn+1+1+1+1+1)=some (.loop 101 er _ _ _ .ready none):=⟨_,rfl,hL0⟩;clear hL0;have e2:er.get 2=some (.ptr hn 0):=by rw[hE,Mp.get_map];simp[go_sem, *,noBox]
   have e3:er.get 3=some (.ptr (hn+1) 0):=by rw[hE,Mp.get_map];simp[go_sem, *,noBox]
   have e4:er.get 4=some (.ptr (hn+1+1) 0):=by rw[hE,Mp.get_map];simp[go_sem, *,noBox]
   have e5:er.get 5=some (.ptr (hn+1+1+1+1) 0):=by rw[hE,Mp.get_map];simp[go_sem, *,noBox]
   have e6:er.get 6=some (.ptr (hn+1+1+1) 0):=by rw[hE,Mp.get_map];simp[go_sem, *,noBox]
   have w2:h.get hn=some (.var [.int .i64 mi,.int .i64 gh,.row sid 0 n5,dv,.row rid 0 l.length,.int .i64 (m:Int),.int .i64 s]):=by rw[hs.2];exact J10
   have w3:h.get (hn+1)=some (.var [.int .i64 (seen:Int)]):=by rw[hs.2];exact J10
   have w4:h.get (hn+1+1)=some (.var [.bool false]):=by rw[hs.2];exact J10
   have w5:h.get (hn+1+1+1+1)=some (.var [.int .i64 (su:Int)]):=by rw[hs.2];exact J10
   have w6:h.get (hn+1+1+1)=some (.var [.int .i64 (ca:Int)]):=by rw[hs.2];exact J10
   obtain⟨hs2,hs3⟩:=hs;have hlow:∀id,id<hn->h.get id=hm0.get id:=fun id hid=>by
    rw[hs3 id];exact J10
   have hnx:hn+1+1+1+1+1+1=h.next:=by rw[hs2];rfl
   have HNX:=J1 hnx;have HLOW:=J1 hlow;have o3:=op_or (a:=n) (b:=su) (by omega) (by omega);have o4:=op_or (a:=n) (b:=ca) (by omega) (by omega);have k141:=K141.out (n ||| su) (n ||| ca) (or_lt hn1 b1) (or_lt hn1 b2);have hst:stepA mi gh su ca seen n u=if rightB mi gh seen (n ||| su) (n ||| ca)=true then ((),false)else ((),true):=rfl
   have HST:=J1 hst;generalize rightB mi gh seen (n ||| su) (n ||| ca)=rb at *;generalize n ||| su=x1 at *;generalize n ||| ca=x2 at *;clear hlow hst hnx;generalize Heap.new _ _=H0 at *;refine round_ok' hL rfl ?_;have HL:=J1 hL;clear hL hE;repeat' (first|refine goS ?_|(refine go2 ?_ ?_<;>intro hh)|fail)
   rintro⟨qn,qm⟩ hqn hqg hqL;have z2:=(hqg hn (by omega)).trans w2;have z3:=(hqg (hn+1) (by omega)).trans w3;have z4:=(hqg (hn+1+1) (by omega)).trans w4;have z5:=(hqg (hn+1+1+1+1) (by omega)).trans w5;have z6:=(hqg (hn+1+1+1) (by omega)).trans w6;have HQN:=J1 hqn;have HQG:=J1 hqg;have HQL:=J1 hqL;simp only[hp_get]at z2 z3 z4 z5 z6;clear hqn hqg hqL w2 w3 w4 w5 w6;cases rb with
   | true =>
    have hst:=HST.out;rw[if_pos rfl]at hst;have HST2:=J1 hst;clear hst;repeat' (first|refine goS ?_|refine uJ (k141 _) ?_|(refine go2 ?_ ?_<;>intro hh)|fail)
    refine round_end HQL.out ?_ HST2.out ?_
    ·exact J10
    refine⟨?_,⟨?_,?_⟩,_,_,_,_,_,(Heap.get_put ..).trans (if_pos rfl)⟩
    ·exact J10
    ·have h1:=HNX.out
     have h2:=HQN.out;simp only at h2;simp only[Heap.put];omega
    ·intro id hid
     have hid':id<hn:=hid;rw[Heap.get_put,if_neg (by omega),hp_get,Mp.get_set,if_neg (by omega),<-hp_get (n:=qn),HQG.out id (by omega),HLOW.out id hid'];rfl
   | false =>
    have hst:=HST.out;rw[if_neg (by decide)]at hst;have HST2:=J1 hst;clear hst;repeat' (first|refine goS ?_|refine uJ (k141 _) ?_|(refine go2 ?_ ?_<;>intro hh)|fail)
    refine round_go HQL.out rfl HST2.out ?_;refine⟨?_,?_⟩
    ·exact HQN.out.trans hs2
    ·intro id
     by_cases h5:id=hn+1+1+1+1+1
     ·subst h5
      rw[Heap.get_put,if_pos rfl,<-hs3,HL.out]
     ·rw[Heap.get_put,if_neg (fun e=>h5 e.symm)]
      exact(HQG.out id h5).trans (hs3 id)
 ·intro s h hs
  rw[hs.2 (hn+1+1+1+1+1),Heap.get_new,if_pos rfl]
 ·intro hx h hs
  have hag0:=HFA.out;rw[hx]at hag0;have hag:agrN mi gh (memP (birF l m) 256) su ca seen=false:=by simpa using hag0.symm
  clear hag0;rw[hag];obtain⟨hs2,hs3⟩:=hs;generalize hput:Heap.put h _ _=hz;obtain⟨zn,zm⟩:=hz;have z1:zm.get (hn+1+1)=some (.var [.bool false]):=by
   rw[<-hp_get (n:=zn),<-hput,Heap.get_put,if_neg (by simp only;omega),hs3];exact J10
  have z3:HExt ⟨hn,hm0⟩ ⟨zn,zm⟩:=by
   rw[<-hput];refine⟨by simp only[Heap.put,hs2,Heap.new];omega,fun id hid=>?_⟩;have hid':id<hn:=hid;rw[Heap.get_put,if_neg (by simp only;omega),hs3 id];exact J10
  have z4:HExt ⟨hn,hm0⟩ ⟨zn,zm.set (hn+1+1) (.var [.bool false])⟩:=⟨z3.1,fun id hid=>by
   have hid':id<hn:=hid;rw[hp_get,Mp.get_set,if_neg (by omega)];exact z3.2 id hid⟩
  have qZ3:=J1 z4;clear hput hs2 hs3 z3 z4 hx hag;simp only[bN,tN];repeat' (first|refine goS ?_|(refine go2 ?_ ?_<;>intro hh)|fail)
  all_goals (simp only[rV Tryz.func101,Tryz.results101];first|exact J5|refine J6 ?_)
  exact⟨_,rfl,qZ3.out⟩
 ·intro hx h hs
  have hag0:=HFA.out;rw[hx]at hag0;have hag:agrN mi gh (memP (birF l m) 256) su ca seen=true:=by simpa using hag0.symm
  clear hag0;rw[hag];obtain⟨hs1,hs2,f,e',pl,a,b,zL⟩:=hs;refine⟨f,e',pl,a,b,.done,zL,(fun e=>by cases e),?_⟩;generalize hput:Heap.put h _ _=hz;obtain⟨zn,zm⟩:=hz;have z1:zm.get (hn+1+1)=some (.var [.bool true]):=by
   rw[<-hp_get (n:=zn),<-hput,Heap.get_put,if_neg (by simp only;omega)];exact hs1
  have z3:HExt ⟨hn,hm0⟩ ⟨zn,zm⟩:=by
   rw[<-hput];refine⟨hs2.1,fun id hid=>?_⟩;have hid':id<hn:=hid;rw[Heap.get_put,if_neg (by simp only;omega),hs2.2 id hid]
  have qZ3:=J1 z3;clear hput hs1 hs2 z3 hx hag zL;simp only[tR,bR,eR,true_and];all_goals (simp only[rV Tryz.func101,Tryz.results101];first|exact J5|refine J6 ?_)
  exact⟨_,rfl,qZ3.out⟩
end
end
end Go.AM
