/-
    A part of the proof: contracts of functions.
-/
import Derived.Test.YtgihdicidaipmaaGreatDoorTAD
import Derived.Test.YtgihdicidaipmaaGreatDoorTAE
import Derived.Carry
import Derived.Test.YtgihdicidaipmaaGreatDoorTie
import Derived.ProofKit
import Derived.ChangeCalls
import Derived.OpenShut
import Derived.LaidMore
import Derived.Lay
import Derived.SevenTiedAt
import Derived.Stop.Joined
import Derived.LaidSub
import Derived.Lib.Hide
set_option linter.unusedSimpArgs false
set_option linter.unusedVariables false
set_option linter.unusedSectionVars false
set_option maxHeartbeats 16000000
namespace Go.AM
open Go Go.RowKit
section
variable{P:Program}{H:Type}{enc:TypeId×Value->H}{w:World}
theorem VL.vrs{C:Cfg}{xa:List AV}{vs:List Value}(h:VL C xa vs):vs.toArray.size=xa.length/\∀i,i<xa.length->VR C (xa.getD i .junk) (vs.toArray.getD i undef):=by
 refine⟨by simp[h.len],fun i hi=>?_⟩;obtain⟨_,v,hv,hr⟩:=h.get i xa[i] (by simp[hi]);have hi2:i<vs.length:=by rw[<-h.len];exact hi
 have e1:xa.getD i .junk=xa[i]:=by simp[List.getD,hi]
 have e2:vs.toArray.getD i undef=v:=by
  simp only[Array.getD_eq_getD_getElem?,List.getElem?_toArray,hv,Option.getD_some]
 rw[e1,e2];exact hr
theorem openV{r:Reach}{base:Nat}{t:TypeId}{v:Value}{d:DataW H}{p:List MemPlace}(n:Nat)(hpl:plainT P n t=true)(hval:Value.okWide P w r base t v)
  (h:DataW.Trod enc P w 0 (fun _=>true) true t v d p):∃xa,VR ⟨fun _=>none,w.cell?⟩ (asElem (isAggT P t) xa) v/\Sh P n t xa:=by
 obtain⟨fuel,hx⟩:=h;obtain⟨xa,h1,h2⟩:=opens n t v.cells.toList fuel _ hpl hx;refine⟨xa,?_,h2⟩;cases n with
 |zero=>simp[plainT]at hpl
 | succ n =>
  unfold plainT at hpl;unfold Value.okWide at hval;cases hu:P.underlying t with
  |none=>rw[hu]at hpl;cases hpl
  | some desc =>
   have plain:isAggT P t=false->(∀cs,v≠.agg cs)->VR ⟨fun _=>none,w.cell?⟩ (asElem (isAggT P t) xa) v:=by
    intro ha hv;have:v.cells.toList=[v]:=by
     cases v<;>first|rfl|exact absurd rfl (hv _)
    rw[this]at h1;cases h1 with
    |cons k1 k2 k3=>
     cases k3;rw[ha];exact k1
   rw[hu]at hpl hval;cases desc with
   |bool=>exact plain (by simp[isAggT,hu]) (fun cs e=>by subst e;simp[Cell.okWide,hu,Cell.ok]at hval)
   |int k=>exact plain (by simp[isAggT,hu]) (fun cs e=>by subst e;simp[Cell.okWide,hu,Cell.ok]at hval)
   |string=>exact plain (by simp[isAggT,hu]) (fun cs e=>by subst e;simp[Cell.okWide,hu,Cell.ok]at hval)
   |slice e=>exact plain (by simp[isAggT,hu]) (fun cs e=>by subst e;simp[Cell.okWide,hu,Cell.ok]at hval)
   |struct fs=>
    obtain⟨cs,rfl,_,_⟩:=hval;have ha:isAggT P t=true:=by simp[isAggT,hu]
    rw[ha];obtain⟨q1,q2⟩:=VL.vrs h1;have:(Value.agg cs).cells.toList.toArray=cs:=by simp[Value.cells]
    rw[this]at q1 q2;exact .agg q1 q2 h1.one
   |_=>cases hpl
theorem VRs.cons2{C:Cfg}{a:AV}{v:Value}{xa:List AV}{vs:List Value}(h:VR C a v)(k:VRs C xa vs.toArray):VRs C (a::xa) (v::vs).toArray:=
 ⟨by simpa using k.1,fun i hi=>by
  cases i with
  |zero=>exact h
  |succ i=>
   have:=k.2 i (by simpa using hi);simpa[List.getD,Array.getD_eq_getD_getElem?]using this⟩
theorem map_enc{α:Type}(c:Cd α):∀(es:List AV),(∀x∈es,∃y,x=c.enc y)->∃l:List α,es=l.map c.enc:=by
 intro es;induction es with
 |nil=>intro _;exact⟨[],rfl⟩
 |cons a es ih=>
  intro h;obtain⟨y,rfl⟩:=h a (by simp);obtain⟨l,rfl⟩:=ih (fun x hx=>h x (by simp[hx]));exact⟨y::l,rfl⟩
theorem Sh.slice{α:Type}(c:Cd α){n:Nat}{t e:TypeId}{xa:List AV}(hu:P.underlying t=some (.slice e))(he:∀xs,Sh P n e xs->∃y,asElem (isAggT P e) xs=c.enc y)(h:Sh P (n+1) t xa) :
  ∃(a:AV) (l:List α),xa=[a]/\isSl a (l.map c.enc):=by
 unfold Sh at h;rw[hu]at h;obtain⟨a,es,rfl,h1,_,h3⟩:=h;obtain⟨l,rfl⟩:=map_enc c es (fun x hx=>by
  obtain⟨xs,rfl,k⟩:=h3 x hx;obtain⟨y,hy⟩:=he xs k;exact⟨y,hy⟩)
 exact⟨a,l,rfl,h1⟩
theorem Sh.int{n:Nat}{t:TypeId}{k:IntKind}{xa:List AV}(hu:P.underlying t=some (.int k))(h:Sh P (n+1) t xa):∃i,xa=[.int k i]/\(Lit.int k i).wf=true:=by
 unfold Sh at h;rw[hu]at h;exact h
theorem Sh.struct{n:Nat}{t:TypeId}{fs:Array Field}{xa:List AV}(hu:P.underlying t=some (.struct fs))(h:Sh P (n+1) t xa):ShF (Sh P n) fs.toList xa:=by
 unfold Sh at h;rw[hu]at h;exact h
end
variable[Keep]
theorem Ext.below{C C':Cfg}{h':Heap}{w w':World}(e:Ext C emptyHp (fun _=>False) w C' h' (fun _=>False) w'):Below w.heap.size w w':=
 ⟨e.os,e.tape,e.output,e.size,fun k hk=>e.same k hk emptyHp_live id⟩
end Go.AM
set_option maxRecDepth 100000
namespace Go.AM
open Go Go.ChangeShapes Go.WideShapes Go.ChangeAt Go.RowKit
section
variable{P:Program}{H:Type}{enc:TypeId×Value->H}{W:World}
inductive ArgsOk(P:Program):List TypeId->List AV->Prop
 |nil:ArgsOk P [] []
 |cons {t:TypeId} {ts:List TypeId} {xs:List AV} {xa:List AV}:Sh P 9 t xs->ArgsOk P ts xa->ArgsOk P (t::ts) (asElem (isAggT P t) xs::xa)
theorem openAll{r:Reach}{base:Nat}:∀(ts:List TypeId) (vs:List Value) (ds:List (DataW H)) (ps:List MemPlace),DataW.TrodAll enc P W 0 (fun _=>true) true ts vs ds ps->(∀t∈ts,plainT P 9 t=true)->
  (∀(j:Nat) t v,ts[j]? =some t->vs[j]? =some v->Value.okWide P W r base t v)->∃avs,VRs ⟨fun _=>none,W.cell?⟩ avs vs.toArray/\ArgsOk P ts avs:=by
 intro ts;induction ts with
 |nil=>
  intro vs ds ps h _ _;obtain⟨rfl,_,_⟩:=trodAll_nil h;exact⟨[],⟨rfl,fun i hi=>by simp at hi⟩,.nil⟩
 |cons t ts ih=>
  intro vs ds ps h hp hv;obtain⟨v,vs',d,ds',p,q,rfl,rfl,rfl,h1,h2⟩:=trodAll_cons h;obtain⟨xs,k1,k2⟩:=openV 9 (hp t (by simp)) (hv 0 t v rfl rfl) h1;obtain⟨xa,g1,g2⟩:=ih vs' ds' q h2 (fun t' ht'=>hp t' (by simp[ht'])) (fun j t' v' e1 e2=>hv (j+1) t' v' (by simpa using e1) (by simpa using e2));exact⟨_,VRs.cons2 k1 g1,.cons k2 g2⟩
theorem backAll{W':World}(hl:laidOutB P=true)(hb:Below W.heap.size W W'):∀(ts:List TypeId) (vs:List Value) (ds:List (DataW H)) (ps:List MemPlace),DataW.TrodAll enc P W 0 (fun _=>true) true ts vs ds ps->
  (∀t∈ts,P.readableRec t=true/\t<P.types.size)->(∀x∈ps,x.block<W.heap.size)->DataW.TrodAll enc P W' 0 (fun b=>decide (b<W.heap.size)) true ts vs ds ps:=by
 intro ts;induction ts with
 |nil=>
  intro vs ds ps h _ _;obtain⟨rfl,rfl,rfl⟩:=trodAll_nil h;exact trodAll_mk0
 |cons t ts ih=>
  intro vs ds ps h hp hlt;obtain⟨v,vs',d,ds',p,q,rfl,rfl,rfl,h1,h2⟩:=trodAll_cons h;exact⟨p,q,Below.trod hl (hp t (by simp)).1 (hp t (by simp)).2 h1 hb (fun x hx=>hlt x (by simp[hx])),ih vs' ds' q h2 (fun t' ht'=>hp t' (by simp[ht'])) (fun x hx=>hlt x (by simp[hx])),rfl⟩
end
end Go.AM
namespace Go.Proofs.YtgihdicidaipmaaGreatDoor
open Go Go.AM Go.ChangeShapes Go.WideShapes Go.ChangeAt Go.RowKit
def laidL:List (String×DataW Unit):=[("math/bits.deBruijn32tab",Rows.laid_math_bits_deBruijn32tab),("math/bits.deBruijn64tab",Rows.laid_math_bits_deBruijn64tab),("internal/strconv.uint64pow10",Rows.laid_internal_strconv_uint64pow10)]
theorem own:ownKnob Tryz.prog.godebug=none:=by kernel_rfl
theorem gPow:Tryz.prog.globalNamed "internal/strconv.uint64pow10" =some 1:=by kernel_rfl
theorem tPow:(Tryz.prog.globals[1]?).map (·.type)=some 237:=by kernel_rfl
theorem uPow:∃e,Tryz.prog.underlying 237=some (.array 20 e)/\Tryz.prog.underlying e=some (.int .u64)/\Tryz.prog.cellsOf e=1:=⟨(match Tryz.prog.underlying 237 with|some (.array _ e)=>e|_=>0),by kernel_rfl,by kernel_rfl,by kernel_rfl⟩
theorem cPow:Tryz.prog.cellsOf 237=20:=by kernel_rfl
theorem dPow:Rows.laid_internal_strconv_uint64pow10 (H:=Unit)=Lib.tabData .u64 Lib.pow10Tab:=by kernel_rfl
theorem laidOut:laidOutB Tryz.prog=true:=by kernel_rfl
theorem tabK_of{W:World}(hL:laidMetH Tryz.prog laidL W):@TabK ⟨W.cell?,fun b=>W.heap[b]?⟩ Tryz.prog:=by
 rw[MakeChecks.laidMetH_plain _ _ _ (by kernel_rfl)]at hL;obtain⟨ps,⟨_,_,_,_,_,_,_,_,_,_,⟨_,_,_,_,_,_,_,_,_,_,⟨g,t,cs,fuel,p,q,hg,ht,hv,hd,_,_⟩,_⟩,_⟩,_,_⟩:=hL;obtain rfl:=Option.some.inj (gPow.symm.trans hg);obtain rfl:=Option.some.inj (tPow.symm.trans ht);obtain⟨e,u1,u2,u3⟩:=uPow;rw[dPow]at hd;have hcs:=Lib.cells_of_tab u1 u2 u3 cPow hd;intro w h;have hheap:∃T fr,W.heap[1]? =some (.cells cs T fr):=by
  unfold World.var? at hv;rw[gPow]at hv;simp only[Option.bind_some]at hv;split at hv
  ·rename_i c T fr hh
   cases hv;exact⟨T,fr,hh⟩
  ·cases hv
 obtain⟨T,fr,hh⟩:=hheap;have h0:W.cell? ⟨1,0,none⟩=some (.int .u64 1):=by
  have:=World.var?_cell hg hv 0;rw[this];have:cs.toList[0]? =some (.int .u64 1):=by rw[hcs];rfl
  simpa using this
 have hw:=h ⟨1,0,none⟩ _ _ h0 hh;unfold Lib.TabIs World.var?;rw[gPow];simp only[Option.bind_some,hw];rw[<-hcs]
theorem lawHolds{f:FuncId}{fn:Func}{s:ChangeSpec}{H:Type}{enc:TypeId×Value->H}(hfn:Tryz.prog.funcs[f]? =some fn)(hres:fn.resultTypes=#[4])(hvars:s.vars=[])
  (hs:∀ds:List (DataW H),ds.length=fn.params.size->s.fn H ds={ results:=[.lit (.bool true)],args:=ds })
  (hpl:∀t∈fn.params.toList,plainT Tryz.prog 9 t=true) (hrd:∀t∈fn.params.toList,Tryz.prog.readableRec t=true/\t<Tryz.prog.types.size)
  (law:∀ [Keep],TabK Tryz.prog->∀avs,ArgsOk Tryz.prog fn.params.toList avs->∃X,X.P=Tryz.prog/\Sound X/\∃h',Cl X f avs emptyHp (.ret (.bool true) h' none))
  (W:World) (base:Nat) (args:Array Value) (ds gs:List (DataW H)) (before:List MemPlace)
  (hval:∀(j:Nat) t v,fn.params[j]? =some t->args[j]? =some v->Value.okWide Tryz.prog W .any base t v)
  (hW:DataW.Whole enc Tryz.prog fn.params.toList s.vars false W args.toList ds gs before) (hL:laidMetH Tryz.prog laidL W) :
  Calls Tryz.prog f args W fun e W'=>∃v,e= .returned v/\s.post enc Tryz.prog fn false true false false W args v W':=by
 have hW':=hW;obtain⟨p,q,hA,hV,hpq,_,_⟩:=hW;rw[hvars]at hV;obtain⟨rfl,rfl⟩:=trodVars_none hV;have hlen:ds.length=fn.params.size:=by simpa using(trodAll_length hA).2
 obtain⟨avs,h1,h2⟩:=openAll fn.params.toList args.toList ds p hA hpl (fun j t v e1 e2=>hval j t v (by simpa using e1) (by simpa using e2))
 letI:Keep:=⟨W.cell?,fun b=>W.heap[b]?⟩
 obtain⟨X,hX,hsound,h',hcl⟩:=law (tabK_of hL) avs h2;have wr:WR ⟨fun _=>none,W.cell?⟩ emptyHp W:=⟨fun _ _ e=>e,fun id blk e=>by simp[emptyHp,Heap.get]at e,fun id id' blk blk' L L' e=>by simp[emptyHp,Heap.get]at e,fun id blk L x v e=>by simp[emptyHp,Heap.get]at e,fun id L e=>(by cases e),⟨fun _ _ e=>e,fun x v o _ e=>e⟩⟩;have hc:=hsound.calls hcl wr (vs:=args) (by simpa using h1);rw[hX]at hc;refine hc.mono fun e W' ⟨C',u,he,hu,_,hext⟩=>?_;subst he;cases hu;have hbelow:=hext.below;have hlt:∀x∈p,x.block<W.heap.size:=fun x hx=>by simpa using hW'.lt x (by rw[hpq];simp[hx])
 refine⟨_,rfl,ds,[],before,[],p,[],hW',?_,?_,?_,hbelow.frame _,fun h=>by cases h⟩
 ·rw[List.append_nil,hs ds hlen,hres]
  exact trodAll_mk1 (shut_bool Tryz.underlying4 true)
 ·rw[List.append_nil,hs ds hlen]
  exact backAll laidOut hbelow _ _ _ _ hA hrd hlt
 ·rw[List.append_nil,hs ds hlen,hvars]
  rfl
def laidL5:List (String×DataW Unit):=[("math/bits.deBruijn32tab",Rows.laid_math_bits_deBruijn32tab),("math/bits.deBruijn64tab",Rows.laid_math_bits_deBruijn64tab),("internal/strconv.uint64pow10",Rows.laid_internal_strconv_uint64pow10),("unicode/utf8.acceptRanges",Rows.laid_unicode_utf8_acceptRanges),("unicode/utf8.first",Rows.laid_unicode_utf8_first)]
def keep3 (x:String×DataW Unit):Bool:=!(x.1== "unicode/utf8.acceptRanges" ||x.1== "unicode/utf8.first")
theorem laidL5_keep:laidL5.filter keep3=laidL:=by
 have h1:keep3 ("math/bits.deBruijn32tab",Rows.laid_math_bits_deBruijn32tab)=true:=by unfold keep3;decide
 have h2:keep3 ("math/bits.deBruijn64tab",Rows.laid_math_bits_deBruijn64tab)=true:=by unfold keep3;decide
 have h3:keep3 ("internal/strconv.uint64pow10",Rows.laid_internal_strconv_uint64pow10)=true:=by unfold keep3;decide
 have h4:keep3 ("unicode/utf8.acceptRanges",Rows.laid_unicode_utf8_acceptRanges)=false:=by unfold keep3;decide
 have h5:keep3 ("unicode/utf8.first",Rows.laid_unicode_utf8_first)=false:=by unfold keep3;decide
 unfold laidL5 laidL;simp only[List.filter_cons,h1,h2,h3,h4,h5,if_true,Bool.false_eq_true,if_false,List.filter_nil]
theorem laidSub{W:World}(h:laidMetH Tryz.prog laidL5 W):laidMetH Tryz.prog laidL W:=by
 have:=h.filter keep3;rw[laidL5_keep]at this;exact this
end Go.Proofs.YtgihdicidaipmaaGreatDoor
namespace Go.AM
open Go
variable[Keep]
def keepE:List Tmp->Mp AV->Mp AV->Prop
 | [],_,_=>True
 |t::r,a,b=>b.get t=a.get t/\keepE r a b
def keepL:List Tmp->Mp (Nat×List AV)->Mp (Nat×List AV)->Prop
 | [],_,_=>True
 |t::r,a,b=>b.get t=a.get t/\keepL r a b
theorem keepE_refl:∀(cs:List Tmp) (e:Mp AV),keepE cs e e
 | [],_=>trivial
 |_::r,e=>⟨rfl,keepE_refl r e⟩
theorem keepL_refl:∀(cs:List Tmp) (e:Mp (Nat×List AV)),keepL cs e e
 | [],_=>trivial
 |_::r,e=>⟨rfl,keepL_refl r e⟩
section
variable{X:Ctx}{Q:Out->Prop}{body:Code}{f:FuncId}{rnd:Bool}{e0:Mp AV}{lm0:Mp (Nat×List AV)}{hp0:Heap}{df:List (AV×List AV)}{up:Option (AV×Bool)}
def contH(n k:Nat)(f:FuncId)(rnd:Bool)(hp:Heap)(df:List (AV×List AV))(up:Option (AV×Bool))(cs ls:List Tmp)(e0:Mp AV)(lm0:Mp (Nat×List AV))(I:Nat->Mp AV->Mp (Nat×List AV)->Prop)(F':Fr):Prop:=
 k<n/\∃e lm,F'=Fr.mk f rnd e lm hp df up/\keepE cs e0 e/\keepL ls lm0 lm/\I (k+1) e lm
theorem contH_mk{n k:Nat}{cs ls:List Tmp}{I:Nat->Mp AV->Mp (Nat×List AV)->Prop}{e:Mp AV}{lm:Mp (Nat×List AV)}(h:k<n)(h1:keepE cs e0 e)(h2:keepL ls lm0 lm)(h3:I (k+1) e lm):contH n k f rnd hp0 df up cs ls e0 lm0 I (Fr.mk f rnd e lm hp0 df up):=⟨h,e,lm,rfl,h1,h2,h3⟩
theorem W.loopH(n:Nat)(cs ls:List Tmp)(I:Nat->Mp AV->Mp (Nat×List AV)->Prop)(h0:I 0 e0 lm0)
  (round:∀k e lm,k <=n->keepE cs e0 e->keepL ls lm0 lm->I k e lm->W X body (Fr.mk f rnd e lm hp0 df up) (thenQ (contH n k f rnd hp0 df up cs ls e0 lm0 I) Q)):W X (.loop body) (Fr.mk f rnd e0 lm0 hp0 df up) Q:=by
 refine W.loopN n (fun k F=>∃e lm,F=Fr.mk f rnd e lm hp0 df up/\k <=n/\keepE cs e0 e/\keepL ls lm0 lm/\I k e lm) ⟨e0,lm0,rfl,Nat.zero_le _,keepE_refl _ _,keepL_refl _ _,h0⟩ ?_;rintro k F ⟨e,lm,rfl,h1,h2,h3,h4⟩;refine(round k e lm h1 h2 h3 h4).mono fun o q=>?_;cases o with
 |norm F'=>
  obtain⟨q1,e',lm',q2,q3,q4,q5⟩:=q;exact⟨q1,e',lm',q2,q1,q3,q4,q5⟩
 |_=>exact q
def contV(n k:Nat)(f:FuncId)(rnd:Bool)(df:List (AV×List AV))(up:Option (AV×Bool))(cs ls:List Tmp)(e0:Mp AV)(lm0:Mp (Nat×List AV))(I:Nat->Mp AV->Mp (Nat×List AV)->Heap->Prop)(F':Fr):Prop:=
 k<n/\∃e lm hp,F'=Fr.mk f rnd e lm hp df up/\keepE cs e0 e/\keepL ls lm0 lm/\I (k+1) e lm hp
theorem contV_mk{n k:Nat}{cs ls:List Tmp}{I:Nat->Mp AV->Mp (Nat×List AV)->Heap->Prop}{e:Mp AV}{lm:Mp (Nat×List AV)}{hp:Heap}(h:k<n)(h1:keepE cs e0 e)(h2:keepL ls lm0 lm)(h3:I (k+1) e lm hp):contV n k f rnd df up cs ls e0 lm0 I (Fr.mk f rnd e lm hp df up):=⟨h,e,lm,hp,rfl,h1,h2,h3⟩
theorem J9{p:Prop}(h:p:=by first|assumption|exact HLT0.out):p:=h
theorem J7{p:Prop}(h:p:=by(simp only[keepE,and_true,and_self,go_sem, *,Nat.reduceLT,Int.reduceEq,Int.reduceBEq,Int.reduceLE,Int.reduceLT,Nat.reduceAdd,Nat.reduceBEq,Nat.reduceEqDiff,reduceIte,Nat.reduceLeDiff,Nat.reduceMul,Nat.reduceSub,reduceCtorEq]<;>fail)):p:=h
theorem J8{p:Prop}(h:p:=by(simp only[keepL,and_true,and_self,go_sem, *,Nat.reduceLT,Int.reduceEq,Int.reduceBEq,Int.reduceLE,Int.reduceLT,Nat.reduceAdd,Nat.reduceBEq,Nat.reduceEqDiff,reduceIte,Nat.reduceLeDiff,Nat.reduceMul,Nat.reduceSub,reduceCtorEq]<;>fail)):p:=h
theorem W.loopV(n:Nat)(cs ls:List Tmp)(I:Nat->Mp AV->Mp (Nat×List AV)->Heap->Prop)(h0:I 0 e0 lm0 hp0)
  (round:∀k e lm hp,k <=n->keepE cs e0 e->keepL ls lm0 lm->I k e lm hp->W X body (Fr.mk f rnd e lm hp df up) (thenQ (contV n k f rnd df up cs ls e0 lm0 I) Q)):W X (.loop body) (Fr.mk f rnd e0 lm0 hp0 df up) Q:=by
 refine W.loopN n (fun k F=>∃e lm hp,F=Fr.mk f rnd e lm hp df up/\k <=n/\keepE cs e0 e/\keepL ls lm0 lm/\I k e lm hp) ⟨e0,lm0,hp0,rfl,Nat.zero_le _,keepE_refl _ _,keepL_refl _ _,h0⟩ ?_;rintro k F ⟨e,lm,hp,rfl,h1,h2,h3,h4⟩;refine(round k e lm hp h1 h2 h3 h4).mono fun o q=>?_;cases o with
 |norm F'=>
  obtain⟨q1,e',lm',hp',q2,q3,q4,q5⟩:=q;exact⟨q1,e',lm',hp',q2,q1,q3,q4,q5⟩
 |_=>exact q
end
end Go.AM
namespace Go.AM
open Go
variable[Keep]
def SepV(a b:AV):Prop:=∀id x y x' y',a= .row id x y->b≠.row id x' y'
theorem SepV.symm{a b:AV}(h:SepV a b):SepV b a:=fun id x y x' y' e f=>h id x' y' x y f e
theorem SepV.nil(b:AV):SepV .nilslice b:=fun _ _ _ _ _ e=>by cases e
section
variable{b n:Nat}{h h':Heap}{u v:AV}{sz:Nat}{l:List AV}
theorem BltN.apart(q:BltN b h v sz l)(k:Keeps h h' u)(s:SepV v u):BltN b h' v sz l:=by
 rcases q with q|⟨id,rfl,h2,h3,h4,h5⟩
 ·exact .inl q
 ·exact .inr ⟨id,rfl,(k.2 id h4 fun off n e=>s id _ _ _ _ rfl e).trans h2,h3,Nat.lt_of_lt_of_le h4 k.1,h5⟩
theorem SepV.new(q:BltN b h v sz l):SepV v (.row h.next 0 n):=by
 intro id x y x' y' e f;rcases q with⟨rfl,_⟩|⟨i,rfl,_,_,h4,_⟩
 ·cases e
 ·cases e
  cases f;omega
end
structure Tri(b:Nat)(h:Heap)(u1 u2 u3:AV)(s1 s2 s3:Nat)(l1 l2 l3:List AV):Prop where
 b1:BltN b h u1 s1 l1
 b2:BltN b h u2 s2 l2
 b3:BltN b h u3 s3 l3
 s12:SepV u1 u2
 s13:SepV u1 u3
 s23:SepV u2 u3
section
variable{b:Nat}{h h':Heap}{u1 u2 u3 v:AV}{s1 s2 s3 n:Nat}{l1 l2 l3 r:List AV}
theorem Tri.nil:Tri b h .nilslice .nilslice .nilslice s1 s2 s3 [] [] []:=⟨.nil,.nil,.nil,.nil _,.nil _,.nil _⟩
theorem Tri.keep(q:Tri b h u1 u2 u3 s1 s2 s3 l1 l2 l3)(x:HExt h h'):Tri b h' u1 u2 u3 s1 s2 s3 l1 l2 l3:=⟨q.b1.keep x,q.b2.keep x,q.b3.keep x,q.s12,q.s13,q.s23⟩
theorem Tri.turn(q:Tri b h u1 u2 u3 s1 s2 s3 l1 l2 l3):Tri b h u2 u3 u1 s2 s3 s1 l2 l3 l1:=⟨q.b2,q.b3,q.b1,q.s23,q.s12.symm,q.s13.symm⟩
theorem Tri.one(q:Tri b h u1 u2 u3 s1 s2 s3 l1 l2 l3)(hb:BltN b h' v s1 r)(k:Keeps h h' u1)(e:v= .row h.next 0 n):Tri b h' v u2 u3 s1 s2 s3 r l2 l3:=by
 subst e;exact⟨hb,q.b2.apart k q.s12.symm,q.b3.apart k q.s13.symm,(SepV.new q.b2).symm,(SepV.new q.b3).symm,q.s23⟩
theorem Tri.two(q:Tri b h u1 u2 u3 s1 s2 s3 l1 l2 l3)(hb:BltN b h' v s2 r)(k:Keeps h h' u2)(e:v= .row h.next 0 n):Tri b h' u1 v u3 s1 s2 s3 l1 r l3:=(q.turn.one hb k e).turn.turn
end
section
variable{X:Ctx}{ops:Array Oper}{K P:AV->Fr->Prop}{F:Fr}{d:Option Tmp}{T:TypeId}{p:String}{af:Array Edge}
theorem WO1.appendX{args:Array Operand}{at_:Array TypeId}{t u e e':TypeId}{tl:List TypeId}{sz b:Nat}{x y:AV}{new l:List AV}{h0:Heap}(hb:BltN b F.hp x sz l)(hx:b <=F.hp.next/\∀id,id<b->F.hp.get id=h0.get id)(hargs:F.opvs args.toList=some [x,y])(ht:at_.toList=t::u::tl)(hu:X.P.underlying u=some (.slice e'))
  (hel:elemT X.P t=some e) (hs:szT X.P e=sz) (hrow:rowable X.P e=true) (hy:F.hp.elems y=some new) (hsz:∀v∈new,v.cells.length=sz) (hlen:l.length+new.length <=most) (hne:new≠[])
  (h:∀v' h',BltN b h' v' sz (l++new)->outV (some v')=some v'->Keeps F.hp h' x->v'= .row F.hp.next 0 (l++new).length->(b <=h'.next/\∀id,id<b->h'.get id=h0.get id)->K v' (({ F with hp:=h' }:Fr).put d v')):WO1 X ops ⟨d,.call ⟨.builtin .append,args,at_⟩,T,p,af,none⟩ F K P:=by
 subst hs;obtain⟨v',h',q1,q2,q3,q4⟩:=append_blt hel hrow hsz hb.blt hlen hne;have hB:BltN b h' v' (szT X.P e) (l++new):=by
  rcases q2 with⟨q,e⟩|⟨id,g1,g2,g3,g4⟩
  ·exact absurd e (by simp[hne])
  ·refine .inr ⟨id,g1,g2,?_,g3,g4⟩
   rw[q4]at g1;cases g1;exact hx.1
 have hX:b <=h'.next/\∀id,id<b->h'.get id=h0.get id:=by
  refine⟨Nat.le_trans hx.1 q3.1,fun id hid=>?_⟩;rw[q3.2 id (Nat.lt_of_lt_of_le hid hx.1) (fun off n ev=>?_)]
  ·exact hx.2 id hid
  ·rcases hb with⟨rfl,_⟩|⟨j,rfl,_,hj,_⟩
   ·cases ev
   ·cases ev;omega
 refine U5 (v:=v') (F':={ F with hp:=h' }) rfl (fun cl rd=>?_) (h v' h' hB q2.out q3 q4 hX)
 simp only[efV,Fr.callOp,Fr.builtinE,Fr.appendE,ht,hargs,hu];cases y<;>first|(simp only[hy,q1,okO];done)|simp[Heap.elems]at hy
end
end Go.AM
namespace Go.AM
open Go Go.Proofs
variable[Keep]
attribute [local irreducible] W WO WO1 WD WQ WT thenQ blockQ endR isRet retK Cl ClR
structure Mk where
 spot:Int
 lo:Int
 hi:Int
structure Ln where
 house:Int
 slo:Int
 shi:Int
 flo:Int
 fhi:Int
structure Md where
 parent:Int
 clo:Int
 chi:Int
 marks:List Mk
 loans:List Ln
structure Bk where
 miss:Int
 ghost:Int
 moulds:List Md
def mkC:Cd Mk where
 enc r:=.agg [.int .i64 r.spot,.int .i64 r.lo,.int .i64 r.hi]
 dec a:=match a with| .agg [.int .i64 x,.int .i64 y,.int .i64 z]=>some ⟨x,y,z⟩|_=>none
 de _:=rfl
 ed a x h:=by split at h<;>cases h;rfl
 pur _:=rfl
def lnC:Cd Ln where
 enc r:=.agg [.int .i64 r.house,.int .i64 r.slo,.int .i64 r.shi,.int .i64 r.flo,.int .i64 r.fhi]
 dec a:=match a with| .agg [.int .i64 x,.int .i64 y,.int .i64 z,.int .i64 u,.int .i64 v]=>some ⟨x,y,z,u,v⟩|_=>none
 de _:=rfl
 ed a x h:=by split at h<;>cases h;rfl
 pur _:=rfl
theorem sl_len{α:Type}{c:Cd α}{a:AV}{l:List α}(h:slV c a=some l):lenS a=some l.length:=by rw[(slV_is h).1.len];simp
theorem sl_out{α:Type}{c:Cd α}{a:AV}{l:List α}(h:slV c a=some l):outV (some a)=some a:=(slV_is h).1.out
theorem sl_max{α:Type}{c:Cd α}{a:AV}{l:List α}(h:slV c a=some l):l.length <=maxL:=(slV_is h).2
theorem mks_idx{a:AV}{l:List Mk}(h:slV mkC a=some l){k:Nat}{p:Mk}(hp:l[k]? =some p)(H:Heap):indexAddrV Tryz.prog H 73 a (.int .i64 ↑k)=some (.vptr [.int .i64 p.spot,.int .i64 p.lo,.int .i64 p.hi]):=
 (slV_is h).1.idx (x:=mkC.enc p) Tryz.underlying73 ty_lay123 (by simp[hp]) rfl
theorem get_some{α:Type}{l:List α}{k:Nat}(h:k<l.length):∃x,l[k]? =some x:=⟨l[k],List.getElem?_eq_getElem h⟩
def isR(r0:COut)(r:COut):Prop:=r=r0
theorem ClR.cl{X:Ctx}{f:FuncId}{args:List AV}{h:Heap}{r:COut}(q:ClR X f args h (isR r)):Cl X f args h r:=by
 unfold ClR at q;obtain⟨r',h1,h2⟩:=q;rw[show r'=r from h2]at h1;exact h1
def bitI(r:Int):Int:=IntKind.i64.wrap (1 * 2 ^ min r.toNat 64)
def orI(a b:Int):Int:=IntKind.i64.wrap ((BitVec.ofInt 64 a ||| BitVec.ofInt 64 b).toNat)
theorem intOp_orI(a b:Int):intOp .or .i64 a b=some (.int .i64 (orI a b)):=rfl
theorem intOp_shlI{r:Int}(h:0 <=r):intOp .shl .i64 1 r=some (.int .i64 (bitI r)):=by
 have:¬r<0:=by omega
 simp only[intOp,if_neg this];rfl
section
variable{c:Itr}
theorem C132(h132:c 132=none)(s:Int)(hs:0 <=s)(h:Heap):Cl (dX c) 132 [.int .i64 s] h (.ret (.int .i64 (bitI s)) h none):=by
 refine ClR.cl ?_;have hsh:=intOp_shlI hs;refine ClR.walk (c:=_) h132 Tryz.func132 rfl (by kernel_rfl) rfl (fun e=>by cases e) ?_
 try simp only[entryEnv,Nat.reduceAdd,List.nil_append,List.cons_append,emptyHp]
 repeat' (first|refine goS ?_|(refine go2 ?_ ?_<;>intro hh)|fail)
 all_goals (simp only[rV Tryz.func132,Tryz.results132];first|exact J5|refine J6 ?_)
 all_goals rfl
def maskS(ms:List Mk)(s:Int)(k:Nat):Int:=(ms.take k).foldl (fun n x=>if x.hi <=s then orI n (bitI x.spot)else n) 0
def maskC(ms:List Mk)(s:Int)(k:Nat):Int:=(ms.take k).foldl (fun n x=>if x.lo <=s then orI n (bitI x.spot)else n) 0
theorem take_next{α:Type}{l:List α}{k:Nat}{x:α}(h:l[k]? =some x):l.take (k+1)=l.take k++[x]:=by
 rw[List.take_add_one,h];rfl
theorem maskS_next{ms:List Mk}{s:Int}{k:Nat}{x:Mk}(h:ms[k]? =some x):maskS ms s (k+1)=if x.hi <=s then orI (maskS ms s k) (bitI x.spot)else maskS ms s k:=by
 unfold maskS;rw[take_next h,List.foldl_append];rfl
theorem maskC_next{ms:List Mk}{s:Int}{k:Nat}{x:Mk}(h:ms[k]? =some x):maskC ms s (k+1)=if x.lo <=s then orI (maskC ms s k) (bitI x.spot)else maskC ms s k:=by
 unfold maskC;rw[take_next h,List.foldl_append];rfl
attribute [local irreducible] maskS maskC bitI orI
theorem C136(h136:c 136=none)(h132:c 132=none)(p clo chi s:Int)(ma la:AV)(ms:List Mk)(hm:slV mkC ma=some ms)(ol:outV (some la)=some la)(hs:∀x∈ms,0 <=x.spot)(h:Heap) :
  Cl (dX c) 136 [.agg [.int .i64 p,.int .i64 clo,.int .i64 chi,ma,la],.int .i64 s] h (.ret (.tuple [.int .i64 (maskS ms s ms.length),.int .i64 (maskC ms s ms.length)]) h none):=by
 refine ClR.cl ?_;have om:=sl_out hm;have lm0:=sl_len hm;have mm:=sl_max hm;have k132:=fun s hs h=>C132 (c:=c) h132 s hs h;have HM:=J1 hm;have HS:=J1 hs;clear hm hs;refine ClR.walk (c:=_) h136 Tryz.func136 rfl (by kernel_rfl) rfl (fun e=>by cases e) ?_
 try simp only[entryEnv,Nat.reduceAdd,List.nil_append,List.cons_append,emptyHp]
 repeat' (first|refine goS ?_|(refine go2 ?_ ?_<;>intro hh)|fail)
 refine W.loopH (ms.length) [1,11,12] [] (fun k e lm=>e.get 13=some (.int .i64 ↑k)/\e.get 6=some (.int .i64 (maskS ms s k))/\e.get 7=some (.int .i64 (maskC ms s k))) ?_ ?_
 ·skip
  refine⟨?_,?_,?_⟩;all_goals first|exact Z2|(simp[go_sem, *];done)|skip
  all_goals (first|rfl|(unfold maskS;rfl)|(unfold maskC;rfl))
 intro k e lm hk0 hce hcl hinv;simp only[keepE,and_true]at hce;obtain⟨c1,c11,c12⟩:=hce;simp only[go_sem, *,Nat.reduceBEq,Nat.reduceEqDiff,reduceIte]at c1 c11 c12;clear hcl;obtain⟨h13,h6,h7⟩:=hinv;by_cases hlt:k<ms.length
 ·have hd0:=dT hlt
  have hv_0:=wrap_succ hlt mm;obtain⟨x,hx⟩:=get_some hlt;have hix:=fun H=>mks_idx HM.out hx H;have hsp:=HS.out x (List.mem_of_getElem? hx);have n1:=maskS_next (s:=s) hx;have n2:=maskC_next (s:=s) hx;have k1:=fun h=>k132 x.spot hsp h;have hor:=intOp_orI;have N1:=J1 n1;have N2:=J1 n2;clear hx hsp n1 n2 k132;by_cases d1:x.hi <=s<;>by_cases d2:x.lo <=s
  ·rw[if_pos d1]at N1
   rw[if_pos d2]at N2;have e1:decide (x.hi <=s)=true:=by simpa using d1
   have e2:decide (x.lo <=s)=true:=by simpa using d2
   clear d1 d2;repeat' (first|refine goS ?_|refine uJ (k1 _) ?_|(refine go2 ?_ ?_<;>intro hh)|fail)
   all_goals refine contH_mk J9 J7 J8 ?_
   all_goals refine⟨?_,?_,?_⟩
   all_goals first|exact Z2|skip
   all_goals first|(rw[N1.out];simp only[go_sem, *,Nat.reduceLT,Int.reduceEq,Int.reduceBEq,Int.reduceLE,Int.reduceLT,Nat.reduceAdd,Nat.reduceBEq,Nat.reduceEqDiff,reduceIte,Nat.reduceLeDiff,Nat.reduceMul,Nat.reduceSub,reduceCtorEq];done)|(rw[N2.out];simp only[go_sem, *,Nat.reduceLT,Int.reduceEq,Int.reduceBEq,Int.reduceLE,Int.reduceLT,Nat.reduceAdd,Nat.reduceBEq,Nat.reduceEqDiff,reduceIte,Nat.reduceLeDiff,Nat.reduceMul,Nat.reduceSub,reduceCtorEq];done)|skip
  ·rw[if_pos d1]at N1
   rw[if_neg d2]at N2;have e1:decide (x.hi <=s)=true:=by simpa using d1
   have e2:decide (x.lo <=s)=false:=by simpa using d2
   clear d1 d2;repeat' (first|refine goS ?_|refine uJ (k1 _) ?_|(refine go2 ?_ ?_<;>intro hh)|fail)
   all_goals refine contH_mk J9 J7 J8 ?_
   all_goals refine⟨?_,?_,?_⟩
   all_goals first|exact Z2|skip
   all_goals first|(rw[N1.out];simp only[go_sem, *,Nat.reduceLT,Int.reduceEq,Int.reduceBEq,Int.reduceLE,Int.reduceLT,Nat.reduceAdd,Nat.reduceBEq,Nat.reduceEqDiff,reduceIte,Nat.reduceLeDiff,Nat.reduceMul,Nat.reduceSub,reduceCtorEq];done)|(rw[N2.out];simp only[go_sem, *,Nat.reduceLT,Int.reduceEq,Int.reduceBEq,Int.reduceLE,Int.reduceLT,Nat.reduceAdd,Nat.reduceBEq,Nat.reduceEqDiff,reduceIte,Nat.reduceLeDiff,Nat.reduceMul,Nat.reduceSub,reduceCtorEq];done)|skip
  ·rw[if_neg d1]at N1
   rw[if_pos d2]at N2;have e1:decide (x.hi <=s)=false:=by simpa using d1
   have e2:decide (x.lo <=s)=true:=by simpa using d2
   clear d1 d2;repeat' (first|refine goS ?_|refine uJ (k1 _) ?_|(refine go2 ?_ ?_<;>intro hh)|fail)
   all_goals refine contH_mk J9 J7 J8 ?_
   all_goals refine⟨?_,?_,?_⟩
   all_goals first|exact Z2|skip
   all_goals first|(rw[N1.out];simp only[go_sem, *,Nat.reduceLT,Int.reduceEq,Int.reduceBEq,Int.reduceLE,Int.reduceLT,Nat.reduceAdd,Nat.reduceBEq,Nat.reduceEqDiff,reduceIte,Nat.reduceLeDiff,Nat.reduceMul,Nat.reduceSub,reduceCtorEq];done)|(rw[N2.out];simp only[go_sem, *,Nat.reduceLT,Int.reduceEq,Int.reduceBEq,Int.reduceLE,Int.reduceLT,Nat.reduceAdd,Nat.reduceBEq,Nat.reduceEqDiff,reduceIte,Nat.reduceLeDiff,Nat.reduceMul,Nat.reduceSub,reduceCtorEq];done)|skip
  ·rw[if_neg d1]at N1
   rw[if_neg d2]at N2;have e1:decide (x.hi <=s)=false:=by simpa using d1
   have e2:decide (x.lo <=s)=false:=by simpa using d2
   clear d1 d2;repeat' (first|refine goS ?_|refine uJ (k1 _) ?_|(refine go2 ?_ ?_<;>intro hh)|fail)
   all_goals refine contH_mk J9 J7 J8 ?_
   all_goals refine⟨?_,?_,?_⟩
   all_goals first|exact Z2|skip
   all_goals first|(rw[N1.out];simp only[go_sem, *,Nat.reduceLT,Int.reduceEq,Int.reduceBEq,Int.reduceLE,Int.reduceLT,Nat.reduceAdd,Nat.reduceBEq,Nat.reduceEqDiff,reduceIte,Nat.reduceLeDiff,Nat.reduceMul,Nat.reduceSub,reduceCtorEq];done)|(rw[N2.out];simp only[go_sem, *,Nat.reduceLT,Int.reduceEq,Int.reduceBEq,Int.reduceLE,Int.reduceLT,Nat.reduceAdd,Nat.reduceBEq,Nat.reduceEqDiff,reduceIte,Nat.reduceLeDiff,Nat.reduceMul,Nat.reduceSub,reduceCtorEq];done)|skip
 ·have hd0:=dF hlt
  obtain rfl:k=ms.length:=by omega
  repeat' (first|refine goS ?_|(refine go2 ?_ ?_<;>intro hh)|fail)
  all_goals (simp only[rV Tryz.func136,Tryz.results136];first|exact J5|refine J6 ?_)
  all_goals rfl
end
end Go.AM
