/-
    A part of the proof: contracts of functions.
-/
import Derived.Test.YtgihdicidaipmaaGreatDoorTAF
import Derived.Test.YtgihdicidaipmaaGreatDoorTAD
set_option linter.unusedSectionVars false
set_option linter.unusedVariables false
set_option linter.unusedSimpArgs false
set_option maxRecDepth 100000
set_option maxHeartbeats 16000000
namespace Go.AM
open Go Go.Proofs
variable[Keep]
attribute [local irreducible] W WO WO1 WD WQ WT thenQ blockQ endR isRet retK Cl ClR
theorem lns_idx{a:AV}{l:List Ln}(h:slV lnC a=some l){k:Nat}{p:Ln}(hp:l[k]? =some p)(H:Heap):indexAddrV Tryz.prog H 74 a (.int .i64 ↑k)=some (.vptr [.int .i64 p.house,.int .i64 p.slo,.int .i64 p.shi,.int .i64 p.flo,.int .i64 p.fhi]):=
 (slV_is h).1.idx (x:=lnC.enc p) Tryz.underlying74 ty_lay100 (by simp[hp]) rfl
def idxOf{α:Type}(p:α->Bool)(l:List α):Int:=match l.findIdx? p with|some k=>(k:Int)|none=>-1
theorem idxOf_any{α:Type}(p:α->Bool)(l:List α):decide (idxOf p l >=0)=l.any p:=by
 unfold idxOf;cases h:l.findIdx? p with
 |none=>
  rw[List.findIdx?_eq_none_iff]at h;have:l.any p=false:=by rw[List.any_eq_false];intro x hx;simp[h x hx]
  rw[this];rfl
 |some k=>
  have h1:(l.findIdx? p).isSome=true:=by rw[h];rfl
  rw[List.findIdx?_isSome]at h1;rw[h1];simp
theorem idxOf_none{α:Type}{p:α->Bool}{l:List α}(h:l.all (fun x=>!p x)=true):idxOf p l= -1:=by
 unfold idxOf;have:l.findIdx? p=none:=by
  rw[List.findIdx?_eq_none_iff];intro x hx;have:=List.all_eq_true.1 h x hx;simpa using this
 rw[this]
theorem idxOf_at{α:Type}{p:α->Bool}{l:List α}{k:Nat}{x:α}(h:(l.take k).all (fun x=>!p x)=true)(hx:l[k]? =some x)(hp:p x=true):idxOf p l=(k:Int):=by
 unfold idxOf;obtain⟨hk,e⟩:=List.getElem?_eq_some_iff.1 hx;have:l.findIdx? p=some k:=by
  rw[List.findIdx?_eq_some_iff_getElem];refine⟨hk,by rw[e];exact hp,fun j hj=>?_⟩;have:=List.all_eq_true.1 h (l[j]'(by omega)) (by rw[List.mem_take_iff_getElem];exact⟨j,by omega,rfl⟩);simpa using this
 rw[this]
section
variable{c:Itr}
theorem C187(hc:c 187=none)(a:AV)(l:List Mk)(ha:slV mkC a=some l)(g:FuncId)(first capt:List AV)(pb:Mk->Bool)(h:Heap)
    (hcall:∀p:Mk,p∈l->Cl (dX c) g ((first++[mkC.enc p])++capt) h (.ret (.bool (pb p)) h none)):Cl (dX c) 187 [a,.func (.func g) first capt] h (.ret (.int .i64 (idxOf pb l)) h none):=by
  refine ClR.cl ?_;have hlen:=sl_len ha;have hout:=sl_out ha;have hmax:=sl_max ha;refine ClR.walk (c:=_) hc Tryz.func187 rfl (by kernel_rfl) rfl (fun e=>by cases e) ?_;simp only[entryEnv,Nat.reduceAdd];repeat' (first|refine goS ?_|(refine go2 ?_ ?_<;>intro hh)|fail)
  refine W.loopN l.length (fun k F=>∃e,F=Fr.mk 187 false e .nil h [] none/\(l.take k).all (fun x=>!pb x)=true/\e.get 0=some a/\e.get 1=some (.func (.func g) first capt)/\e.get 7=some (.int .i64 ↑l.length)/\e.get 8=some (.int .i64 ↑k)/\k <=l.length) ?_ ?_
  · refine⟨_,rfl,?_,?_,?_,?_,?_,?_⟩<;>simp[go_sem, *]
  rintro k F ⟨e,rfl,hall,h0,h1,h7,h8,hk⟩;have HA:=J1 hall;clear hall;by_cases hlt:k<l.length
  · obtain ⟨p, hp⟩ := get_some hlt
    have hix:=mks_idx ha hp;have hcl:=hcall p (List.mem_of_getElem? hp);have hd:decide ((k:Int)<(l.length:Int))=true:=by simpa using hlt
    have hw:=wrap_succ hlt hmax;have hnx:=take_next hp;have HI:pb p=true->idxOf pb l=k:=idxOf_at HA.out hp;have HH:=J1 HI;clear ha hcall hp HI;simp only[mkC]at hcl;repeat' (first|(apply U6;exact Z1;exact Z1;(focus (exact hcl));simp only[pM,pN,rR,rP])|refine go1 ?_|(refine go2 ?_ ?_<;>intro hh)|fail)
    all_goals first
      | (refine ⟨hlt, _, rfl, ?_, ?_, ?_, ?_, ?_, by omega⟩
         · have := HA.out
           rw[hnx];simp_all
         all_goals exact Z2)
      | ((simp only [rV Tryz.func187, Tryz.results187]; first | exact J5 | refine J6 ?_)
         have:=HH.out hh;simp[isR,frzRes,dX_frz,dFrz,this])
  · have hd : decide ((k : Int) < (l.length : Int)) = false := by simpa using hlt
    have hkl:k=l.length:=by omega
    have h2:=HA.out;rw[hkl,List.take_length]at h2;have HI:=J1 (idxOf_none h2);clear ha hcall h2 hkl;repeat' (first|refine goS ?_|(refine go2 ?_ ?_<;>intro hh)|fail)
    all_goals (simp only[rV Tryz.func187,Tryz.results187];first|exact J5|refine J6 ?_)
    have:=HI.out;simp[isR,frzRes,dX_frz,dFrz,this]
theorem C188(hc:c 188=none)(a:AV)(l:List Ln)(ha:slV lnC a=some l)(g:FuncId)(first capt:List AV)(pb:Ln->Bool)(h:Heap)
    (hcall:∀p:Ln,p∈l->Cl (dX c) g ((first++[lnC.enc p])++capt) h (.ret (.bool (pb p)) h none)):Cl (dX c) 188 [a,.func (.func g) first capt] h (.ret (.int .i64 (idxOf pb l)) h none):=by
  refine ClR.cl ?_;have hlen:=sl_len ha;have hout:=sl_out ha;have hmax:=sl_max ha;refine ClR.walk (c:=_) hc Tryz.func188 rfl (by kernel_rfl) rfl (fun e=>by cases e) ?_;simp only[entryEnv,Nat.reduceAdd];repeat' (first|refine goS ?_|(refine go2 ?_ ?_<;>intro hh)|fail)
  refine W.loopN l.length (fun k F=>∃e,F=Fr.mk 188 false e .nil h [] none/\(l.take k).all (fun x=>!pb x)=true/\e.get 0=some a/\e.get 1=some (.func (.func g) first capt)/\e.get 7=some (.int .i64 ↑l.length)/\e.get 8=some (.int .i64 ↑k)/\k <=l.length) ?_ ?_
  · refine⟨_,rfl,?_,?_,?_,?_,?_,?_⟩<;>simp[go_sem, *]
  rintro k F ⟨e,rfl,hall,h0,h1,h7,h8,hk⟩;have HA:=J1 hall;clear hall;by_cases hlt:k<l.length
  · obtain ⟨p, hp⟩ := get_some hlt
    have hix:=lns_idx ha hp;have hcl:=hcall p (List.mem_of_getElem? hp);have hd:decide ((k:Int)<(l.length:Int))=true:=by simpa using hlt
    have hw:=wrap_succ hlt hmax;have hnx:=take_next hp;have HI:pb p=true->idxOf pb l=k:=idxOf_at HA.out hp;have HH:=J1 HI;clear ha hcall hp HI;simp only[lnC]at hcl;repeat' (first|(apply U6;exact Z1;exact Z1;(focus (exact hcl));simp only[pM,pN,rR,rP])|refine go1 ?_|(refine go2 ?_ ?_<;>intro hh)|fail)
    all_goals first
      | (refine ⟨hlt, _, rfl, ?_, ?_, ?_, ?_, ?_, by omega⟩
         · have := HA.out
           rw[hnx];simp_all
         all_goals exact Z2)
      | ((simp only [rV Tryz.func188, Tryz.results188]; first | exact J5 | refine J6 ?_)
         have:=HH.out hh;simp[isR,frzRes,dX_frz,dFrz,this])
  · have hd : decide ((k : Int) < (l.length : Int)) = false := by simpa using hlt
    have hkl:k=l.length:=by omega
    have h2:=HA.out;rw[hkl,List.take_length]at h2;have HI:=J1 (idxOf_none h2);clear ha hcall h2 hkl;repeat' (first|refine goS ?_|(refine go2 ?_ ?_<;>intro hh)|fail)
    all_goals (simp only[rV Tryz.func188,Tryz.results188];first|exact J5|refine J6 ?_)
    have:=HI.out;simp[isR,frzRes,dX_frz,dFrz,this]
theorem C174(hc:c 187=none)(hc2:c 174=none)(a:AV)(l:List Mk)(ha:slV mkC a=some l)(g:FuncId)(first capt:List AV)(pb:Mk->Bool)(h:Heap)
  (hcall:∀p:Mk,p∈l->Cl (dX c) g ((first++[mkC.enc p])++capt) h (.ret (.bool (pb p)) h none)):Cl (dX c) 174 [a,.func (.func g) first capt] h (.ret (.bool (l.any pb)) h none):=by
 refine ClR.cl ?_;have hcl:=C187 hc a l ha g first capt pb h hcall
 have hout:=sl_out ha;have hb:=idxOf_any pb l;clear ha hcall;refine ClR.walk (c:=_) hc2 Tryz.func174 rfl (by kernel_rfl) rfl (fun e=>by cases e) ?_;simp only[entryEnv,Nat.reduceAdd];repeat' (first|(apply U6;exact Z1;exact Z1;(focus (exact hcl));simp only[pM,pN,rR,rP])|refine go1 ?_|(refine go2 ?_ ?_<;>intro hh)|fail)
 all_goals (simp only[rV Tryz.func174,Tryz.results174];first|exact J5|refine J6 ?_)
 simp[isR,frzRes,dX_frz,dFrz,hb]
theorem C176(hc:c 188=none)(hc2:c 176=none)(a:AV)(l:List Ln)(ha:slV lnC a=some l)(g:FuncId)(first capt:List AV)(pb:Ln->Bool)(h:Heap)
  (hcall:∀p:Ln,p∈l->Cl (dX c) g ((first++[lnC.enc p])++capt) h (.ret (.bool (pb p)) h none)):Cl (dX c) 176 [a,.func (.func g) first capt] h (.ret (.bool (l.any pb)) h none):=by
 refine ClR.cl ?_;have hcl:=C188 hc a l ha g first capt pb h hcall
 have hout:=sl_out ha;have hb:=idxOf_any pb l;clear ha hcall;refine ClR.walk (c:=_) hc2 Tryz.func176 rfl (by kernel_rfl) rfl (fun e=>by cases e) ?_;simp only[entryEnv,Nat.reduceAdd];repeat' (first|(apply U6;exact Z1;exact Z1;(focus (exact hcl));simp only[pM,pN,rR,rP])|refine go1 ?_|(refine go2 ?_ ?_<;>intro hh)|fail)
 all_goals (simp only[rV Tryz.func176,Tryz.results176];first|exact J5|refine J6 ?_)
 simp[isR,frzRes,dX_frz,dFrz,hb]
def badM(x:Mk):Bool:=!(inB x.spot 0 7)||!(spB x.lo x.hi 1 36)
def badL(x:Ln):Bool:=!(inB x.house 0 5)||!(spB x.slo x.shi 0 12)||!(spB x.flo x.fhi 0 99)
theorem C175(hc:c 175=none)(h119:(dX c).intr 119=some (pureFn sp119))(h173:(dX c).intr 173=some (pureFn sp173))(x:Mk)(h:Heap):Cl (dX c) 175 [.agg [.int .i64 x.spot,.int .i64 x.lo,.int .i64 x.hi]] h (.ret (.bool (badM x)) h none):=by
 refine ClR.cl ?_;cases h1:inB x.spot 0 7
 ·skip
  refine ClR.walk (c:=_) hc Tryz.func175 rfl (by kernel_rfl) rfl (fun e=>by cases e) ?_
  try simp only[entryEnv,Nat.reduceAdd,List.nil_append,List.cons_append,emptyHp]
  repeat' (first|refine goS ?_|refine uJ (K119 h119 _ _ _ _) ?_|(refine go2 ?_ ?_<;>intro hh)|fail)
  all_goals (simp only[rV Tryz.func175,Tryz.results175];first|exact J5|refine J6 ?_)
  all_goals simp[isR,frzRes,dX_frz,dFrz,badM,h1]
 ·skip
  refine ClR.walk (c:=_) hc Tryz.func175 rfl (by kernel_rfl) rfl (fun e=>by cases e) ?_
  try simp only[entryEnv,Nat.reduceAdd,List.nil_append,List.cons_append,emptyHp]
  repeat' (first|refine goS ?_|refine uJ (K119 h119 _ _ _ _) ?_|refine uJ (K173 h173 _ _ _ _ _) ?_|(refine go2 ?_ ?_<;>intro hh)|fail)
  all_goals (simp only[rV Tryz.func175,Tryz.results175];first|exact J5|refine J6 ?_)
  all_goals simp[isR,frzRes,dX_frz,dFrz,badM,h1]
theorem C177(hc:c 177=none)(h119:(dX c).intr 119=some (pureFn sp119))(h173:(dX c).intr 173=some (pureFn sp173))(x:Ln)(h:Heap):Cl (dX c) 177 [.agg [.int .i64 x.house,.int .i64 x.slo,.int .i64 x.shi,.int .i64 x.flo,.int .i64 x.fhi]] h (.ret (.bool (badL x)) h none):=by
 refine ClR.cl ?_;cases h1:inB x.house 0 5
 ·skip
  refine ClR.walk (c:=_) hc Tryz.func177 rfl (by kernel_rfl) rfl (fun e=>by cases e) ?_
  try simp only[entryEnv,Nat.reduceAdd,List.nil_append,List.cons_append,emptyHp]
  repeat' (first|refine goS ?_|refine uJ (K119 h119 _ _ _ _) ?_|(refine go2 ?_ ?_<;>intro hh)|fail)
  all_goals (simp only[rV Tryz.func177,Tryz.results177];first|exact J5|refine J6 ?_)
  all_goals simp[isR,frzRes,dX_frz,dFrz,badL,h1]
 ·cases h2:spB x.slo x.shi 0 12
  ·skip
   refine ClR.walk (c:=_) hc Tryz.func177 rfl (by kernel_rfl) rfl (fun e=>by cases e) ?_
   try simp only[entryEnv,Nat.reduceAdd,List.nil_append,List.cons_append,emptyHp]
   repeat' (first|refine goS ?_|refine uJ (K119 h119 _ _ _ _) ?_|refine uJ (K173 h173 _ _ _ _ _) ?_|(refine go2 ?_ ?_<;>intro hh)|fail)
   all_goals (simp only[rV Tryz.func177,Tryz.results177];first|exact J5|refine J6 ?_)
   all_goals simp[isR,frzRes,dX_frz,dFrz,badL,h1,h2]
  ·skip
   refine ClR.walk (c:=_) hc Tryz.func177 rfl (by kernel_rfl) rfl (fun e=>by cases e) ?_
   try simp only[entryEnv,Nat.reduceAdd,List.nil_append,List.cons_append,emptyHp]
   repeat' (first|refine goS ?_|refine uJ (K119 h119 _ _ _ _) ?_|refine uJ (K173 h173 _ _ _ _ _) ?_|(refine go2 ?_ ?_<;>intro hh)|fail)
   all_goals (simp only[rV Tryz.func177,Tryz.results177];first|exact J5|refine J6 ?_)
   all_goals simp[isR,frzRes,dX_frz,dFrz,badL,h1,h2]
end
end Go.AM
namespace Go.AM
open Go
variable[Keep]
theorem WO1.gund{X:Ctx}{ops:Array Oper}{K P:AV->Fr->Prop}{F:Fr}{d:Option Tmp}{op:Op}{T:TypeId}{p:String}{af:Array Edge}{j:Nat}{want:Bool}{o:Oper}{t:Tmp}(ho:ops[j]? =some o)(ht:o.dst=some t)(hb:F.e.get t=some undefA)(h:K undefA (F.put d undefA)):WO1 X ops ⟨d,op,T,p,af,some (j,want)⟩ F K P:=
 ⟨.val undefA (F.put d undefA),⟨0,fun m _=>by simp[stepOp,guardOk,wantedA,yieldedA,ho,ht,hb,undefA]⟩,h⟩
end Go.AM
