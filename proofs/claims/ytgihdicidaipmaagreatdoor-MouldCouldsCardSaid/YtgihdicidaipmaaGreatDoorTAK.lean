/-
    A part of the proof: contracts of functions.
-/
import Derived.Test.YtgihdicidaipmaaGreatDoorTAJ
import Derived.Test.YtgihdicidaipmaaGreatDoorTAC
import Derived.Test.YtgihdicidaipmaaGreatDoorTAD
set_option linter.unusedSectionVars false
set_option linter.unusedVariables false
set_option linter.unusedSimpArgs false
set_option maxRecDepth 100000
set_option maxHeartbeats 16000000
namespace Go.AM
open Go Go.Proofs
variable[Keep]
attribute [local irreducible] W WO WO1 WD WQ WT thenQ blockQ endR isRet retK Cl ClR
section
attribute [local irreducible] roundQ RdR
attribute [local irreducible] lineM metS
def MetI(tid:Nat)(h0:Heap)(s:Nat)(h:Heap):Prop:=s<256/\h.get tid=some (.var [.int .i64 (s:Int)])/\h.next=h0.next/\∀id,id≠tid->h.get id=h0.get id
def MetD(L:Nat)(_:Nat)(h:Heap):Prop:=h.get 0=some (.var [.bool false])/\∃f e pl a b,h.get L=some (.loop f e pl a b .done (some .ret))
section
variable{c:Itr}
theorem C120 (hc : c 120 = none) (hc1 : c 149 = none) (hc2 : c 178 = none) (hc3 : c 132 = none) (h119 : (dX c).intr 119 = some (pureFn sp119)) (h148 : (dX c).intr 148 = some (pureFn sp148)) (mi gh : Int) (sa : AV) (l : List Md) (hm : MdsV sa l) :
  ClR (dX c) 120 [.agg [.int .i64 mi,.int .i64 gh,sa]] emptyHp (isRet (.bool (bookB ⟨mi,gh,l⟩))):=by
 have os:=hm.out;have hlen:=hm.len;have hmax:=hm.max;have HM:=J1 hm;have HX:=J1 hmax;cases h1:inB mi 0 2
 ·skip
  refine ClR.walk (c:=_) hc Tryz.func120 rfl (by kernel_rfl) rfl isRet_fail ?_
  try simp only[entryEnv,Nat.reduceAdd,List.nil_append,List.cons_append,emptyHp]
  repeat' (first|refine gJ ?_|refine go1 ?_|refine uJ (K119 h119 _ _ _ _) ?_|(refine go2 ?_ ?_<;>intro hh)|fail)
  all_goals (simp only[rV Tryz.func120,Tryz.results120];first|exact J5|refine J6 ?_)
  all_goals simp[bookB,h1]
 cases h2:inB gh 0 2
 ·skip
  refine ClR.walk (c:=_) hc Tryz.func120 rfl (by kernel_rfl) rfl isRet_fail ?_
  try simp only[entryEnv,Nat.reduceAdd,List.nil_append,List.cons_append,emptyHp]
  repeat' (first|refine gJ ?_|refine go1 ?_|refine uJ (K119 h119 _ _ _ _) ?_|(refine go2 ?_ ?_<;>intro hh)|fail)
  all_goals (simp only[rV Tryz.func120,Tryz.results120];first|exact J5|refine J6 ?_)
  all_goals simp[bookB,h1,h2]
 cases h3:inB l.length 1 5
 ·skip
  refine ClR.walk (c:=_) hc Tryz.func120 rfl (by kernel_rfl) rfl isRet_fail ?_
  try simp only[entryEnv,Nat.reduceAdd,List.nil_append,List.cons_append,emptyHp]
  repeat' (first|refine gJ ?_|refine go1 ?_|refine uJ (K119 h119 _ _ _ _) ?_|(refine go2 ?_ ?_<;>intro hh)|fail)
  all_goals (simp only[rV Tryz.func120,Tryz.results120];first|exact J5|refine J6 ?_)
  all_goals simp[bookB,h1,h2,h3]
 have hbk:bookB ⟨mi,gh,l⟩=bookP l l.length:=by simp[bookB,h1,h2,h3]
 rw[hbk];have HP0:=J1 (show bookP l 0=true from rfl);clear hbk hm;refine ClR.walk (c:=_) hc Tryz.func120 rfl (by kernel_rfl) rfl isRet_fail ?_
 try simp only[entryEnv,Nat.reduceAdd,List.nil_append,List.cons_append,emptyHp]
 repeat' (first|refine gJ ?_|refine go1 ?_|refine uJ (K119 h119 _ _ _ _) ?_|(refine go2 ?_ ?_<;>intro hh)|fail)
 refine W.loopV (l.length) [1,2,26,27] [1] (fun k e lm hp=>e.get 28=some (.int .i64 ↑k)/\bookP l k=true/\hp.get 0=some (.var [.bool false])/\0<hp.next) ?_ ?_
 ·skip
  refine⟨?_,HP0.out,?_,?_⟩;all_goals simp[go_sem, *,Heap.get]
 intro k e lm hp hk0 hce hcl hinv;simp only[keepE,and_true]at hce;obtain⟨c1,c2,c26,c27⟩:=hce;simp only[go_sem, *,Nat.reduceBEq,Nat.reduceEqDiff,reduceIte]at c1 c2 c26 c27;simp only[keepL,and_true]at hcl;have d1:=hcl;clear hcl;simp only[go_sem, *,Nat.reduceBEq,Nat.reduceEqDiff,reduceIte]at d1;obtain⟨h28,hp0,hg0,hnx⟩:=hinv;by_cases hlt:k<l.length
 ·have hd0 := dT hlt
  have hv_0:=wrap_succ hlt HX.out;obtain⟨d,hd⟩:=get_some hlt;obtain⟨ma,la,v1,v2,hix⟩:=HM.out.elem _ _ hd;have om:=sl_out v1;have ol:=sl_out v2;have k148:=fun h=>K148 (X:=dX c) h148 (p:=d.parent) (clo:=d.clo) (chi:=d.chi) v1 v2 (k:Int) h;obtain⟨zn,zm⟩:=hp;simp only[hp_get]at hg0;have hne0:(zn==0)=false:=by simp only[Nat.pos_iff_ne_zero]at hnx;simpa using hnx
  have HLT:=J1 hlt;cases hmd:mdOk d k with
  |false=>
   have hb:mdB d.parent d.clo d.chi d.marks d.loans k=false:=hmd;have hfin:bookP l l.length=false:=bookP_no (k:=k+1) (by rw[bookP_next hd,hmd];simp) (by omega);rw[hb]at k148;rw[hfin];clear hp0 v1 v2 hd hmd hb hfin hlt hnx hne0;repeat' (first|refine gJ ?_|refine go1 ?_|refine uJ (k148 _) ?_|(refine go2 ?_ ?_<;>intro hh)|fail)
   all_goals (simp only[rV Tryz.func120,Tryz.results120];first|exact J5|refine J6 ?_)
  | true =>
   have hb:mdB d.parent d.clo d.chi d.marks d.loans k=true:=hmd;rw[hb]at k148;have hok:MdsOk l (k+1):=fun j e hj he=>by
    by_cases q:j=k
    ·subst q;rw[hd]at he;cases he;exact hmd
    ·exact(bookP_at hp0 (by omega) he).1
   have hnk:bookP l (k+1)=lineOk l k:=by rw[bookP_next hd,hmd,hp0];simp
   have k149:=fun hm=>C149 hc1 mi gh (k:Int) sa os (zn+1) hm;have HOK:=J1 hok;have HNK:=J1 hnk;have HNX:=J1 hnx;clear hp0 v1 v2 hd hmd hb hok hnk hlt hnx;repeat' (first|refine gJ ?_|refine go1 ?_|refine uJ (k148 _) ?_|refine uJ (k149 _) ?_|(refine go2 ?_ ?_<;>intro hh)|fail)
   refine W.rangeSt (fid:=178) (first:=[]) (capt:=[.ptr (zn+1+1) 0,.ptr (zn+1) 0]) (MetI zn) (MetD (zn+1+2)) (foldS metS (lineM l k) 0) rfl ?_ ?_ ?_ ?_ ?_
   ·first|exact Z2|exact Z1
   ·have hkl:=HLT.out
    have hmx:=HX.out;have hbd:k+1 <=maxL:=by omega
    refine C178 _ _ metS hc2 mi gh sa l HM.out (k+1) (HOK.out.wf hbd) (by omega) (k:Int) (by omega) (by omega) (zn+1+1) (zn+1) (zn+1+2) ?_ ?_ 0 _ ⟨by decide,?_,rfl,fun _ _=>rfl⟩
    ·intro s h hs
     rw[hs.2.2.2 (zn+1+1) (by omega),hs.2.2.2 (zn+1) (by omega)];constructor<;>simp[Heap.new,Heap.get,Mp.get_set]
    ·intro jx s h hj hs
     have hsp:=line_spot hbd (by omega) HOK.out (m:=(k:Int)) (by omega) (by omega) hj;have hbt:=bitI_nat hsp.1 (by omega);have hpw:=pow_lt hsp.1 hsp.2;have k132:=fun h=>C132 hc3 jx.2.spot hsp.1 h;rw[hbt]at k132;have hgo:=metS_go (jx:=jx) (s:=s);have hno:=metS_no (jx:=jx) (s:=s);have hL0:=hs.2.2.2 (zn+1+2) (by omega);rw[Heap.get_new,if_pos rfl]at hL0;obtain⟨er,hE,hL⟩:∃er,er=_/\h.get (zn+1+2)=some (.loop 120 er _ _ _ .ready none):=⟨_,rfl,hL0⟩;clear hL0;have r2:er.get 2=some (.ptr 0 0):=by rw[hE,Mp.get_map];simp[go_sem, *,noBox]
     have r5:er.get 5=some (.ptr zn 0):=by rw[hE,Mp.get_map];simp[go_sem, *,noBox]
     obtain⟨hs1,hs2,hs3,hs4⟩:=hs;have g0:h.get 0=some (.var [.bool false]):=by
      have h0z:0≠zn:=by have:=HNX.out;simp only at this;omega
      rw[hs4 0 h0z,Heap.get_new,if_neg (by simp only;omega),hp_get,Mp.get_set,if_neg (by omega),Mp.get_set,if_neg (by omega),Mp.get_set,if_neg (Ne.symm h0z),Mp.get_set,if_neg (Ne.symm h0z)];exact hg0
     have o1:=op_and (a:=s) (b:=2 ^ jx.2.spot.toNat) (by omega) (by omega);have o2:=op_or (a:=s) (b:=2 ^ jx.2.spot.toNat) (by omega) (by omega);have HOR:=J1 (Go.Mo7.or_lt hs1 hpw);have HS1:=J1 hs1;have HS3:=J1 hs3;have HS4:=J1 hs4;have HL:=J1 hL;have HGO:=J1 hgo;have HNO:=J1 hno;have hzl:zn+1+2≠zn:=by omega
     have h0z:0≠zn:=by have:=HNX.out;simp only at this;omega
     generalize Heap.new _ _=H0 at *;refine round_ok' hL rfl ?_;clear hL hE hs1 hs3 hs4 hsp hbt hpw hkl hmx hbd hgo hno;generalize 2 ^ jx.2.spot.toNat=b at *;repeat' (first|refine goS ?_|(refine go2 ?_ ?_<;>intro hh)|fail)
     rintro⟨qn,qm⟩ hqn hqg hqL;have q0:=(hqg 0 (by omega)).trans g0;have q1:=(hqg zn (by omega)).trans hs2;have HQN:=J1 hqn;have HQG:=J1 hqg;have HQL:=J1 hqL;simp only[hp_get]at q0 q1;clear hqn hqg hqL g0 hs2;by_cases hb:s &&& b=0
     ·rw[hb]at o1
      have hb2:(((0:Nat):Int) !=0)=false:=rfl;repeat' (first|(apply W.drawQ (id:=11) (l1:=[0,1,2,3,4,5]) (l2:=[]);kernel_rfl;kernel_rfl;kernel_rfl;exact Z4)|(apply W.drawQ (id:=13) (l1:=[0,1,2,3,4]) (l2:=[5]);kernel_rfl;kernel_rfl;kernel_rfl;exact Z4)|refine go1 ?_|refine uJ (k132 _) ?_|(refine go2 ?_ ?_<;>intro hh)|fail)
      refine round_go HQL.out ?_ (HGO.out hb) ?_
      ·simp only[hp_get,Mp.get_set,if_neg (Ne.symm hzl)]
      refine⟨HOR.out,?_,?_,?_⟩
      ·rw[Heap.get_put,if_neg hzl,hp_get,Mp.get_set,if_pos rfl]
      ·exact HQN.out.trans HS3.out
      ·intro id hid
       by_cases h5:id=zn+1+2
       ·subst h5
        rw[Heap.get_put,if_pos rfl,<-HS4.out _ hid,HL.out]
       ·rw[Heap.get_put,if_neg (fun e=>h5 e.symm),hp_get,Mp.get_set,if_neg (Ne.symm hid),<-hp_get (n:=qn),HQG.out id h5,HS4.out _ hid]
     ·have hb2:(((s &&& b:Nat):Int) !=0)=true:=by simp;omega
      repeat' (first|(apply W.drawQ (id:=11) (l1:=[0,1,2,3,4,5]) (l2:=[]);kernel_rfl;kernel_rfl;kernel_rfl;exact Z4)|(apply W.drawQ (id:=13) (l1:=[0,1,2,3,4]) (l2:=[5]);kernel_rfl;kernel_rfl;kernel_rfl;exact Z4)|refine go1 ?_|refine uJ (k132 _) ?_|(refine go2 ?_ ?_<;>intro hh)|fail)
      refine round_end HQL.out ?_ (HNO.out hb) ?_
      ·have h7:¬ 0=zn+1+2:=by omega
       simp only[hp_get,Mp.get_set,if_neg h7]
      refine⟨?_,_,_,_,_,_,(Heap.get_put ..).trans (if_pos rfl)⟩;rw[Heap.get_put,if_neg (by omega),hp_get,Mp.get_set,if_pos rfl]
    ·rw[Heap.get_new,if_neg (by simp only;omega),hp_get,Mp.get_set,if_neg (by omega),Mp.get_set,if_neg (by omega),Mp.get_set,if_pos rfl]
     rfl
   ·intro s h hs
    rw[hs.2.2.2 (zn+1+2) (by omega),Heap.get_new,if_pos rfl]
   ·intro hx h hs
    have hlo:lineOk l (k:Int)=true:=hx;have hnk:=HNK.out;rw[hlo]at hnk;have z0:h.get 0=some (.var [.bool false]):=by
     have h0z:0≠zn:=by have:=HNX.out;simp only at this;omega
     rw[hs.2.2.2 0 h0z,Heap.get_new,if_neg (by simp only;omega),hp_get,Mp.get_set,if_neg (by omega),Mp.get_set,if_neg (by omega),Mp.get_set,if_neg (Ne.symm h0z),Mp.get_set,if_neg (Ne.symm h0z)];exact hg0
    have zx:0<h.next:=by rw[hs.2.2.1];simp[Heap.new]
    have HNK2:=J1 hnk;clear hnk hlo hx;generalize hput:Heap.put h _ _=hz;obtain⟨yn,ym⟩:=hz;have y0:ym.get 0=some (.var [.bool false]):=by
     rw[<-hp_get (n:=yn),<-hput,Heap.get_put,if_neg (by simp only;omega)];exact z0
    have yx:0<yn:=by
     have:=congrArg Heap.next hput;simp only[Heap.put]at this;omega
    have Y0:=J1 y0;have YX:=J1 yx;clear hput z0 zx hs y0 yx hg0;simp only[bN,tN];repeat' (first|refine goS ?_|(refine go2 ?_ ?_<;>intro hh)|fail)
    all_goals refine contV_mk J9 J7 J8 ?_
    all_goals refine⟨?_,HNK2.out,Y0.out,YX.out⟩
    all_goals first|exact Z2|skip
   ·intro hx h hs
    have hlo:lineOk l (k:Int)=false:=hx;have hnk:=HNK.out;rw[hlo]at hnk;have hkl:=HLT.out;rw[bookP_no hnk (by omega)];obtain⟨z0,f,e',pl,a,b,zL⟩:=hs;refine⟨f,e',pl,a,b,.done,zL,(fun e=>by cases e),?_⟩;clear hnk hlo hx hkl;generalize hput:Heap.put h _ _=hz;obtain⟨yn,ym⟩:=hz;have y0:ym.get 0=some (.var [.bool false]):=by
     rw[<-hp_get (n:=yn),<-hput,Heap.get_put,if_neg (by simp only;omega)];exact z0
    clear hput z0 zL;simp only[tR,bR,eR,true_and];all_goals (simp only[rV Tryz.func120,Tryz.results120];first|exact J5|refine J6 ?_)
 ·have hd0:=dF hlt
  obtain rfl:k=l.length:=by omega
  rw[hp0];clear hp0;obtain⟨zn,zm⟩:=hp;simp only[hp_get]at hg0;repeat' (first|refine goS ?_|(refine go2 ?_ ?_<;>intro hh)|fail)
  all_goals (simp only[rV Tryz.func120,Tryz.results120];first|exact J5|refine J6 ?_)
end
end
section
theorem bk_pur{a:AV}{b:Bk}(h:bkV a=some b):a.pur=true:=by
 obtain⟨sa,rfl,hm⟩:=bk_is h;simp[AV.pur,AV.purL,hm.pur]
def sp120:List AV->Option AV
 | [a]=>(bkV a).map fun b=>.bool (bookB b)
 |_=>none
theorem p120:∀args v,sp120 args=some v->v.pur=true:=by
 intro args v h;unfold sp120 at h;split at h
 ·rw[Option.map_eq_some_iff]at h
  obtain⟨b,_,rfl⟩:=h;rfl
 ·cases h
noncomputable def cMK:Itr
 |119=>some (pureFn sp119)
 |148=>some (pureFn sp148)
 |_=>none
theorem cMK_sound:Sound (dX cMK):=dX_sound (fun f g h=>by
 unfold cMK at h;split at h
 ·cases h;exact F119
 ·cases h;exact F148
 ·cases h)
theorem F120:IntrFn Tryz.prog 120 (pureFn sp120):=by
 refine pure_fn (X:=dX cMK) cMK_sound p120 ?_;intro args v h;unfold sp120 at h;split at h
 ·rw[Option.map_eq_some_iff]at h
  obtain⟨b,hb,rfl⟩:=h;obtain⟨sa,rfl,hm⟩:=bk_is hb;exact C120 (c:=cMK) rfl rfl rfl rfl rfl rfl b.miss b.ghost sa b.moulds hm
 ·cases h
theorem K120{X:Ctx}(hX:X.intr 120=some (pureFn sp120)){a:AV}{b:Bk}(hb:bkV a=some b)(h:Heap):Cl X 120 [a] h (.ret (.bool (bookB b)) h none):=
 Cl.intr hX (by simp only[pureFn,AV.purL,bk_pur hb,Bool.and_self,if_true,sp120,hb,Option.map_some])
end
end Go.AM
namespace Go.AM
open Go
variable[Keep]
def viewD(h:Heap)(a:AV):Option AV:=
 match a with
 | .agg l=>(viewVs h l).map AV.agg
 |a=>viewV h a
def viewDs(h:Heap):List AV->Option (List AV)
 | []=>some []
 |a::r=>match viewD h a,viewDs h r with
  |some x,some l=>some (x::l)
  |_,_=>none
def flatFnD(spec:List AV->Option AV):List AV->Heap->Option (AV×Heap):=fun args h=>match viewDs h args with
 |some l=>(match spec l with|some v=>some (v,h)|none=>none)
 |none=>none
theorem viewV_one{h:Heap}{a a':AV}(e:viewV h a=some a')(ho:a.one=true):a'.one=true:=by
 unfold viewV at e;split at e
 ·split at e
  ·split at e
   ·split at e
    ·cases e;rfl
    ·cases e
   ·cases e
  ·cases e
 ·split at e
  ·cases e;exact ho
  ·cases e
theorem viewVs_get{h:Heap}:∀{l l':List AV},viewVs h l=some l'->l'.length=l.length/\∀i,i<l.length->viewV h (l.getD i .junk)=some (l'.getD i .junk):=by
 intro l;induction l with
 |nil=>intro l' e;simp only[viewVs,Option.some.injEq]at e;subst e;exact⟨rfl,fun i hi=>by simp at hi⟩
 | cons a l ih =>
  intro l' e;simp only[viewVs]at e;split at e
  ·rename_i x l1 hx hl
   cases e;obtain⟨h1,h2⟩:=ih hl;refine⟨by simp[h1],fun i hi=>?_⟩;cases i with
   |zero=>simpa using hx
   |succ i=>simpa using h2 i (by simpa using hi)
  ·cases e
theorem purL_of:∀{l:List AV},(∀a∈l,a.pur=true)->AV.purL l=true:=by
 intro l;induction l with
 |nil=>intro _;rfl
 |cons a l ih=>
  intro h;simp only[AV.purL,Bool.and_eq_true];exact⟨h a (by simp),ih (fun b hb=>h b (by simp[hb]))⟩
variable{C:Cfg}{h:Heap}{w:World}
theorem viewD_ok(r:WR C h w){a a':AV}{v:Value}(hv:VR C a v)(e:viewD h a=some a'):a'.pur=true/\VR ⟨fun _=>none,w.cell?⟩ a' v:=by
 unfold viewD at e;split at e
 ·rename_i l
  simp only[Option.map_eq_some_iff]at e;obtain⟨l',e,rfl⟩:=e;obtain⟨e1,e2⟩:=viewVs_get e;cases hv with
  | agg h1 h2 h3 =>
   have hk:∀i,i<l.length->(l'.getD i .junk).pur=true/\VR ⟨fun _=>none,w.cell?⟩ (l'.getD i .junk) _:=fun i hi=>viewV_ok r (h2 i hi) (e2 i hi);refine⟨?_,.agg (by omega) (fun i hi=>(hk i (by omega)).2) (fun c hc=>?_)⟩
   ·simp only[AV.pur]
    refine purL_of fun b hb=>?_;obtain⟨i,hi⟩:=List.mem_iff_getElem?.1 hb;have hil:i<l.length:=by
     rcases Nat.lt_or_ge i l.length with q|q
     ·exact q
     ·rw[List.getElem?_eq_none (by omega)]at hi;cases hi
    have:=(hk i hil).1;simpa[List.getD,hi]using this
   ·obtain⟨i,hi⟩:=List.mem_iff_getElem?.1 hc
    have hil:i<l.length:=by
     rcases Nat.lt_or_ge i l.length with q|q
     ·exact q
     ·rw[List.getElem?_eq_none (by omega)]at hi;cases hi
    have h5:=e2 i hil;have h6:(l'.getD i .junk)=c:=by simp[List.getD,hi]
    rw[h6]at h5;refine viewV_one h5 (h3 _ ?_);have:l.getD i .junk=l[i]:=by simp[List.getD,hil]
    rw[this];exact List.getElem_mem hil
 ·exact viewV_ok r hv e
theorem viewDs_ok(r:WR C h w):∀{l l':List AV} {vs:Array Value},VRs C l vs->viewDs h l=some l'->(∀a∈l',a.pur=true)/\VRs ⟨fun _=>none,w.cell?⟩ l' vs:=by
 intro l;induction l with
 |nil=>
  intro l' vs hv e;simp only[viewDs,Option.some.injEq]at e;subst e;exact⟨by simp,hv.1,fun i hi=>by simp at hi⟩
 | cons a l ih =>
  intro l' vs hv e;simp only[viewDs]at e;split at e
  ·rename_i x l1 hx hl
   cases e;have h0:VR C a (vs.getD 0 undef):=by simpa using hv.2 0 (by simp)
   obtain⟨p1,p2⟩:=viewD_ok r h0 hx;have hsz:vs.size=l.length+1:=by have:=hv.1;simpa using this
   have ht:VRs C l (vs.extract 1 vs.size):=by
    refine⟨by simp[hsz],fun i hi=>?_⟩;have:=hv.2 (i+1) (by simp;omega);have e2:(vs.extract 1 vs.size).getD i undef=vs.getD (i+1) undef:=by
     simp only[Array.getD_eq_getD_getElem?];rw[Array.getElem?_extract];have:i<vs.size - 1:=by omega
     simp[this,Nat.add_comm]
    rw[e2];simpa using this
   obtain⟨q1,q2⟩:=ih ht hl;refine⟨by simpa[p1]using q1,?_⟩;have:=VRs.cons p2 q2;have e3:#[vs.getD 0 undef]++vs.extract 1 vs.size=vs:=by
    apply Array.ext_getElem?;intro i;cases i with
    |zero=>
     have:0<vs.size:=by omega
     simp[Array.getElem?_append,Array.getD_eq_getD_getElem?,this]
    | succ i =>
     rw[Array.getElem?_append_right (by simp)];simp only[List.size_toArray,List.length_cons,List.length_nil,Nat.zero_add,Nat.add_sub_cancel,Array.getElem?_extract];by_cases hi:i<vs.size - 1
     ·simp[hi,Nat.add_comm]
     ·have:vs.size <=i+1:=by omega
      simp[hi,this]
   rw[e3]at this;exact this
  ·cases e
end Go.AM
namespace Go.AM
open Go
variable[Keep]
theorem flat_of_pure {P : Program} {f : FuncId} {spec : List AV -> Option AV} (hp : ∀ args v, spec args = some v -> v.flat = true) (hI : IntrFn P f (pureFn spec)) : IntrFn P f (flatFnD spec) := by
  intro args h v h' hg C w vs r hv;unfold flatFnD at hg;split at hg
  · rename_i l hl
    split at hg
    · rename_i u hsp
      cases hg;obtain⟨p1,p2⟩:=viewDs_ok r hv hl;have hpl:AV.purL l=true:=by
        clear hl hsp p2;induction l with
        |nil=>rfl
        | cons a l ih =>
          simp only[AV.purL,Bool.and_eq_true];exact⟨p1 a (List.mem_cons_self ..),ih fun a ha=>p1 a (List.mem_cons_of_mem _ ha)⟩
      have hok:=hI l emptyHp v emptyHp (by simp only[pureFn,hpl,if_true,hsp]) ⟨fun _=>none,w.cell?⟩ w vs ⟨fun _ _ h=>h,fun id blk e=>by simp[emptyHp,Heap.get]at e,fun id id' blk blk' L L' e=>by simp[emptyHp,Heap.get]at e,fun id blk L x v e=>by simp[emptyHp,Heap.get]at e,fun id L e=>(by cases e),r.base.on r.sig (fun _ _ _=>rfl)⟩ p2;refine⟨hok.1,fun cs=>?_⟩;have:=hok.2 cs;obtain⟨C',w',fr,u,q1,q2,q3,q4,q5,q6⟩:=this;have hsame:∀ β,β<w.heap.size->w'.heap[β]? =w.heap[β]?:=fun β hb=>q6.same β hb emptyHp_live id;refine⟨C,w',fr,u,q1,q2,q3,q4.flat (hp _ _ hsp),⟨fun x u e=>?_,fun id blk e=>?_,r.inj,r.apart,r.fresh,r.base.on (fun _ _ e=>e) (fun x v e=>hsame _ (WR.sig_lt (F:=Fr.mk 0 false .nil .nil h [] none) r e))⟩,?_⟩
      · have h1 := r.sig x u e
        have hb:=WR.sig_lt (F:=Fr.mk 0 false .nil .nil h [] none) r e;unfold World.cell? at h1 ⊢;rw[hsame _ hb];exact h1
      · obtain ⟨L, k1, k2⟩ := r.blk id blk e
        exact⟨L,k1,k2.same (.refl C) (hsame _ k2.lt)⟩
      · exact { le := .refl C, os := q6.os, tape := q6.tape, output := q6.output, size := q6.size, same := fun β hb _ _ => hsame β hb, live := fun β hb l => .inl l,
                own:=fun _ _ o=>o.elim,sig:=fun x u hb e=>.inl e,next:=Nat.le_refl _ }
    · cases hg
  · cases hg
end Go.AM
namespace Go.AM
open Go Go.Proofs
variable[Keep]
attribute [local irreducible] W WO WO1 WD WQ WT thenQ blockQ endR isRet retK Cl ClR
def sureM(ms:List Mk)(s:Int):Nat:=ms.foldl (fun n x=>if x.hi <=s then n ||| 2 ^ x.spot.toNat else n) 0
def canM(ms:List Mk)(s:Int):Nat:=ms.foldl (fun n x=>if x.lo <=s then n ||| 2 ^ x.spot.toNat else n) 0
def spotsOk(ms:List Mk):Bool:=ms.all fun x=>inB x.spot 0 7
theorem fold_set(p:Mk->Bool):∀(ms:List Mk) (n:Nat),spotsOk ms=true->n<256->
  ms.foldl (fun(n:Int) x=>if p x=true then orI n (bitI x.spot)else n) (n:Int)=((ms.foldl (fun(n:Nat) x=>if p x=true then n ||| 2 ^ x.spot.toNat else n) n:Nat):Int)/\ms.foldl (fun(n:Nat) x=>if p x=true then n ||| 2 ^ x.spot.toNat else n) n<256
 | [],n,_,hn=>⟨rfl,hn⟩
 | x :: ms, n, hs, hn => by
  unfold spotsOk at hs;rw[List.all_cons,Bool.and_eq_true]at hs;have hsp:=hs.1;simp only[inB,Bool.and_eq_true,decide_eq_true_eq]at hsp;simp only[List.foldl_cons];by_cases h:p x=true
  ·simp only[if_pos h]
   have hp:=pow_lt hsp.1 hsp.2;rw[bitI_nat hsp.1 (by omega),orI_nat (by omega) (by omega)];exact fold_set p ms _ hs.2 (Go.Mo7.or_lt hn hp)
  ·simp only[if_neg h]
   exact fold_set p ms _ hs.2 hn
theorem maskS_nat{ms:List Mk}(h:spotsOk ms=true)(s:Int):maskS ms s ms.length=(sureM ms s:Int)/\sureM ms s<256:=by
 have:=fold_set (fun x=>decide (x.hi <=s)) ms 0 h (by decide);simp only[decide_eq_true_eq]at this;unfold maskS sureM;rw[List.take_length];exact this
theorem maskC_nat{ms:List Mk}(h:spotsOk ms=true)(s:Int):maskC ms s ms.length=(canM ms s:Int)/\canM ms s<256:=by
 have:=fold_set (fun x=>decide (x.lo <=s)) ms 0 h (by decide);simp only[decide_eq_true_eq]at this;unfold maskC canM;rw[List.take_length];exact this
def sp136:List AV->Option AV
 | [.agg [.int .i64 _,.int .i64 _,.int .i64 _,ma,la],.int .i64 s]=>match slV mkC ma,slV lnC la with
  |some ms,some _=>if spotsOk ms=true then some (.tuple [.int .i64 (sureM ms s:Int),.int .i64 (canM ms s:Int)])else none
  |_,_=>none
 |_=>none
theorem p136:∀args v,sp136 args=some v->v.pur=true:=by
 intro args v h;unfold sp136 at h;split at h
 ·split at h
  ·split at h
   ·cases h;rfl
   ·cases h
  ·cases h
 ·cases h
theorem F136p:IntrFn Tryz.prog 136 (pureFn sp136):=by
 refine pure_fn (X:=dX i0) i0_sound p136 ?_;intro args v h;unfold sp136 at h;split at h
 ·rename_i p clo chi ma la s
  split at h
  ·rename_i ms ls hm hl
   split at h
   ·rename_i hok
    have h:=Option.some.inj h;subst h;have hs0:∀x∈ms,0 <=x.spot:=fun x hx=>by
     have:=List.all_eq_true.1 hok x hx;simp only[inB,Bool.and_eq_true,decide_eq_true_eq]at this;omega
    have:=C136 (c:=i0) rfl rfl p clo chi s ma la ms hm (sl_out hl) hs0 emptyHp;rw[(maskS_nat hok s).1,(maskC_nat hok s).1]at this;unfold ClR isRet;exact⟨_,this,rfl⟩
   ·cases h
  ·cases h
 ·cases h
theorem f136:∀args v,sp136 args=some v->v.flat=true:=by
 intro args v h;unfold sp136 at h;split at h
 ·split at h
  ·split at h
   ·cases h;rfl
   ·cases h
  ·cases h
 ·cases h
theorem F136:IntrFn Tryz.prog 136 (flatFnD sp136):=flat_of_pure f136 F136p
theorem view_p{h:Heap}{a:AV}(hp:a.pur=true):viewV h a=some a:=by
 unfold viewV;split
 ·simp[AV.pur]at hp
 ·simp[hp]
theorem K136{X:Ctx}(hX:X.intr 136=some (flatFnD sp136)){p clo chi:Int}{ma la:AV}{ms:List Mk}{ls:List Ln}(hm:slV mkC ma=some ms)(hl:slV lnC la=some ls)(ok:spotsOk ms=true)(s:Int)(h:Heap) :
  Cl X 136 [.agg [.int .i64 p,.int .i64 clo,.int .i64 chi,ma,la],.int .i64 s] h (.ret (.tuple [.int .i64 (sureM ms s:Int),.int .i64 (canM ms s:Int)]) h none):=by
 have pm:=sl_pur hm;have pl:=sl_pur hl;have e:∀n:Int,viewV h (.int .i64 n)=some (.int .i64 n):=fun n=>rfl;exact Cl.intr hX (by simp only[flatFnD,viewDs,viewD,viewVs,e,view_p pm,view_p pl,Option.map_some,sp136,hm,hl,ok,if_true])
theorem spots_of{d:Md}{n:Nat}(hn:n <=maxL)(h:mdOk d n=true):spotsOk d.marks=true:=by
 unfold spotsOk;rw[List.all_eq_true];intro x hx;have:=(mdOk_parts hn h).2.2.2.2.2.2.2.1 x hx;unfold badM at this;simp only[Bool.or_eq_false_iff,Bool.not_eq_false']at this;exact this.1
theorem HExt.pair{a b:Heap}(h:HExt a b):a.next <=b.next/\∀id,id<a.next->b.get id=a.get id:=h
def intsE(l:List Int):List AV:=l.map (AV.int .i64)
theorem intsE_app(l:List Int)(n:Int):intsE (l++[n])=intsE l++[.int .i64 n]:=by simp[intsE]
theorem intsE_len(l:List Int):(intsE l).length=l.length:=by simp[intsE]
def dayA(ls:List Ln)(k:Nat):Int:=(ls.take k).foldl (fun d x=>maxV d x.flo) 0
def daysA(ls:List Ln):Nat->List Int
 |0=>[]
 |k+1=>daysA ls k++[dayA ls (k+1)]
def dayB(ls:List Ln)(k:Nat):Bool:=match ls[k]? with|some x=>decide (dayA ls (k+1) <=x.fhi)|none=>true
def daysOk(ls:List Ln):Bool:=(List.range ls.length).all (dayB ls)
theorem dayA_next{ls:List Ln}{k:Nat}{x:Ln}(h:ls[k]? =some x):dayA ls (k+1)=maxV (dayA ls k) x.flo:=by
 unfold dayA;rw[take_next h,List.foldl_append];rfl
theorem daysA_len(ls:List Ln):∀k,(daysA ls k).length=k
 |0=>rfl
 |k+1=>by simp[daysA,daysA_len ls k]
theorem daysA_next(ls:List Ln)(k:Nat):daysA ls (k+1)=daysA ls k++[dayA ls (k+1)]:=rfl
theorem daysA_at(ls:List Ln){n k:Nat}(h:k<n):(daysA ls n)[k]? =some (dayA ls (k+1)):=by
 induction n with
 |zero=>omega
 | succ n ih =>
  unfold daysA;by_cases e:k=n
  ·subst e
   rw[List.getElem?_append_right (by rw[daysA_len];omega),daysA_len];simp
  ·rw[List.getElem?_append_left (by rw[daysA_len];omega)]
   exact ih (by omega)
def daysR(h:Heap)(ls:List Ln)(r:COut):Prop:=
 if daysOk ls=true then ∃h',r= .ret (slN (intsE (daysA ls ls.length))) h' none/\HExt h h'
 else ∃h' m,r= .pan (.iface 181 (.agg [.int .i64 m])) h' none/\HExt h h'
theorem daysR_fail{h:Heap}{ls:List Ln}:¬daysR h ls .fail:=by
 unfold daysR;split
 ·rintro⟨_,e,_⟩;cases e
 ·rintro⟨_,_,e,_⟩;cases e
theorem daysR_ret{h h':Heap}{ls:List Ln}(q:∀k,k<ls.length->dayB ls k=true)(e:HExt h h'):daysR h ls (.ret (slN (intsE (daysA ls ls.length))) h' none):=by
 unfold daysR;rw[if_pos (by unfold daysOk;rw[List.all_eq_true];intro k hk;exact q k (List.mem_range.1 hk))];exact⟨h',rfl,e⟩
theorem daysR_pan{h h':Heap}{ls:List Ln}{k:Nat}{m:Int}(hk:k<ls.length)(q:dayB ls k=false)(e:HExt h h'):daysR h ls (.pan (.iface 181 (.agg [.int .i64 m])) h' none):=by
 unfold daysR;rw[if_neg (by unfold daysOk;intro h;have:=List.all_eq_true.1 h k (List.mem_range.2 hk);rw[q]at this;cases this)];exact⟨h',m,rfl,e⟩
attribute [local irreducible] dayA daysA dayB daysR
section
variable{c:Itr}
theorem C162(hc:c 162=none)(mi gh:Int)(sa:AV)(l:List Md)(hm:MdsV sa l)(m:Nat)(d:Md)(hd:l[m]? =some d)(h:Heap) :
  ClR (dX c) 162 [.agg [.int .i64 mi,.int .i64 gh,sa],.int .i64 (m:Int)] h (daysR h d.loans):=by
 have os:=hm.out;obtain⟨ma,la,v1,v2,hix⟩:=hm.elem m d hd;have om:=sl_out v1;have ol:=sl_out v2;have ll0:=sl_len v2;have ml:=sl_max v2;have HV:=J1 v2;have h0:daysA d.loans 0=[]:=by unfold daysA;rfl
 have h1:dayA d.loans 0=0:=by unfold dayA;rfl
 have H0:=J1 h0;have H1:=J1 h1;clear v1 v2 hm hd h0 h1;refine ClR.walk (c:=_) hc Tryz.func162 rfl (by kernel_rfl) rfl daysR_fail ?_
 try simp only[entryEnv,Nat.reduceAdd,List.nil_append,List.cons_append,emptyHp]
 repeat' (first|refine goS ?_|(refine go2 ?_ ?_<;>intro hh)|fail)
 refine W.loopV (d.loans.length) [1,14,15] [] (fun k e lm hp=>∃u,e.get 16=some (.int .i64 ↑k)/\e.get 6=some (.int .i64 (dayA d.loans k))/\e.get 5=some (u)/\BltN h.next hp u 1 (intsE (daysA d.loans k))/\HExt h hp/\(∀j,j<k->dayB d.loans j=true)) ?_ ?_
 ·skip
  refine⟨.nilslice,?_,?_,?_,?_,HExt.refl _,fun j hj=>absurd hj (Nat.not_lt_zero _)⟩
  ·simp[go_sem, *]
  ·rw[H1.out];simp[go_sem, *]
  ·simp[go_sem, *]
  ·rw[H0.out];exact BltN.nil
 intro k e lm hp hk0 hce hcl hinv;simp only[keepE,and_true]at hce;obtain⟨c1,c14,c15⟩:=hce;simp only[go_sem, *,Nat.reduceBEq,Nat.reduceEqDiff,reduceIte]at c1 c14 c15;clear hcl;obtain⟨u,h16,h6,h5,hB,hX,hq⟩:=hinv;by_cases hlt:k<d.loans.length
 ·have hd0:=dT hlt
  have hv_0:=wrap_succ hlt ml;obtain⟨x,hx⟩:=get_some hlt;have hix2:=fun H=>lns_idx HV.out hx H;have hdn:=dayA_next hx;have hbo1:=hB.blt.out;have hll:(intsE (daysA d.loans k)).length+1 <=most:=by
   rw[intsE_len,daysA_len];unfold most;have:=ml;unfold maxL at this;omega
  have hdb:dayB d.loans k=decide (dayA d.loans (k+1) <=x.fhi):=by unfold dayB;rw[hx]
  have HLT0:=J1 hlt;have HQ:=J1 hq;have HDN:=J1 hdn;clear hlt hq hx;rw[hdn]at hdb;clear hdn;by_cases hg:maxV (dayA d.loans k) x.flo>x.fhi
  ·have e1:decide (maxV (dayA d.loans k) x.flo>x.fhi)=true:=by simpa using hg
   have hdb2:dayB d.loans k=false:=by rw[hdb];simp;omega
   have HD:=J1 hdb2;have HX:=J1 hX;clear hdb hdb2 hg hX;repeat' (first|(apply WO1.panic;exact rfl;(focus (intro cl rd;simp only[go_sem, *,Nat.reduceLT,Int.reduceEq,Int.reduceBEq,Int.reduceLE,Int.reduceLT,Nat.reduceAdd,Nat.reduceBEq,Nat.reduceEqDiff,reduceIte,Nat.reduceLeDiff,Nat.reduceMul,Nat.reduceSub,reduceCtorEq,efV,Fr.panicE];with_reducible rfl));simp only[tP,bP,eP,true_and])|refine go1 ?_|(refine go2 ?_ ?_<;>intro hh)|fail)
   exact daysR_pan HLT0.out HD.out HX.out
  ·have e1:decide (maxV (dayA d.loans k) x.flo>x.fhi)=false:=by simpa using hg
   have hdb2:dayB d.loans k=true:=by rw[hdb];simp;omega
   have hqn:∀j,j<k+1->dayB d.loans j=true:=fun j hj=>by
    by_cases e:j=k
    ·subst e;exact hdb2
    ·exact HQ.out j (by omega)
   have HQN:=J1 hqn;clear hdb hdb2 hg hqn;repeat' (first|(apply WO1.appendN (t:=36) (u:=36) (e:=3) (e':=3) (sz:=1) (tl:=[]) (hb:=hB) (hx:=HExt.pair hX);exact Z1;exact rfl;exact Z2;exact Z2;exact Z2;(focus (exact ty_row36));exact Z1;(focus (intro v hv;simp at hv;subst hv;first|rfl|exact hsc));(focus (simp only[List.length_map,List.length_cons,List.length_nil];exact hll));(focus (simp));(intro v' h' hB' ho' hX';have hcc':=hB'.blt.cells;have htt':=hB'.blt.tup;simp only[AV.cells]at hcc';simp only[isTuple]at htt';simp only[pM,pN]))|refine go1 ?_|(refine go2 ?_ ?_<;>intro hh)|fail)
   all_goals refine contV_mk J9 J7 J8 ?_
   all_goals refine⟨v',?_,?_,?_,?_,hX',HQN.out⟩
   all_goals first|exact Z2|skip
   ·rw[HDN.out];simp only[go_sem, *,Nat.reduceLT,Int.reduceEq,Int.reduceBEq,Int.reduceLE,Int.reduceLT,Nat.reduceAdd,Nat.reduceBEq,Nat.reduceEqDiff,reduceIte,Nat.reduceLeDiff,Nat.reduceMul,Nat.reduceSub,reduceCtorEq]
   ·rw[daysA_next,intsE_app,HDN.out];exact hB'
 ·have hd0:=dF hlt
  obtain rfl:k=d.loans.length:=by omega
  have hbo1:=hB.blt.out;obtain⟨hz,f1,f2,f3,fn,fk⟩:=hB.freeze;have HX:=J1 hX;have HQ:=J1 hq;have hxz:HExt h hz:=⟨by have:=hX.1;omega,fun id hid=>(fk id hid).trans (hX.2 id hid)⟩;have HXZ:=J1 hxz;clear hB hX hq hxz fn fk;repeat' (first|refine goS ?_|(refine go2 ?_ ?_<;>intro hh)|fail)
  all_goals (simp only[rV Tryz.func162,Tryz.results162];first|exact J5|refine J6 ?_)
  exact daysR_ret HQ.out HXZ.out
end
end Go.AM
