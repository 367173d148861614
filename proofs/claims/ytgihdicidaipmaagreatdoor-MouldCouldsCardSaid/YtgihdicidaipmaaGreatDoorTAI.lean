/-
    A part of the proof: contracts of functions.
-/
import Derived.Test.YtgihdicidaipmaaGreatDoorTAH
import Derived.Test.YtgihdicidaipmaaGreatDoorTAD
import Derived.Test.YtgihdicidaipmaaGreatDoorTAF
set_option linter.unusedSectionVars false
set_option linter.unusedVariables false
set_option linter.unusedSimpArgs false
set_option maxRecDepth 100000
namespace Go.AM
open Go Go.Proofs
variable[Keep]
attribute [local irreducible] W WO WO1 WD WQ WT thenQ blockQ endR isRet retK Cl ClR
theorem sl_pur{α:Type}{c:Cd α}{a:AV}{l:List α}(h:slV c a=some l):a.pur=true:=(slV_is h).1.pur (enc_pur c l)
def sp148:List AV->Option AV
 | [.agg [.int .i64 p,.int .i64 clo,.int .i64 chi,ma,la],.int .i64 n]=>match slV mkC ma,slV lnC la with
  |some ms,some ls=>some (.bool (mdB p clo chi ms ls n))
  |_,_=>none
 |_=>none
theorem p148:∀args v,sp148 args=some v->v.pur=true:=by
 intro args v h;unfold sp148 at h;split at h
 ·split at h
  ·cases h;rfl
  ·cases h
 ·cases h
noncomputable def cMD:Itr
 |119=>some (pureFn sp119)
 |173=>some (pureFn sp173)
 |_=>none
theorem cMD_sound:Sound (dX cMD):=dX_sound (fun f g h=>by
 unfold cMD at h;split at h
 ·cases h;exact F119
 ·cases h;exact F173
 ·cases h)
theorem F148:IntrFn Tryz.prog 148 (pureFn sp148):=by
 refine pure_fn (X:=dX cMD) cMD_sound p148 ?_;intro args v h;unfold sp148 at h;split at h
 ·rename_i p clo chi ma la n
  split at h
  ·rename_i ms ls hm hl
   cases h;have:=C148 (c:=cMD) rfl rfl rfl rfl rfl rfl rfl rfl rfl p clo chi ma la ms ls hm hl n emptyHp;unfold ClR isRet;exact⟨_,this,rfl⟩
  ·cases h
 ·cases h
theorem K148{X:Ctx}(hX:X.intr 148=some (pureFn sp148)){p clo chi:Int}{ma la:AV}{ms:List Mk}{ls:List Ln}(hm:slV mkC ma=some ms)(hl:slV lnC la=some ls)(n:Int)(h:Heap) :
  Cl X 148 [.agg [.int .i64 p,.int .i64 clo,.int .i64 chi,ma,la],.int .i64 n] h (.ret (.bool (mdB p clo chi ms ls n)) h none):=by
 have pm:=sl_pur hm;have pl:=sl_pur hl;exact Cl.intr hX (by simp only[pureFn,AV.purL,AV.pur,pm,pl,Bool.and_self,Bool.and_true,if_true,sp148,hm,hl])
end Go.AM
namespace Go.AM
open Go
variable[Keep]
section
variable{X:Ctx}{F:Fr}{Q:Out->Prop}{g:Operand}{params:Array Tmp}{assign body:Code}{fid:FuncId}{first capt ps:List AV}{v:AV}{h:Heap}{up:Option (AV×Bool)}{f:FuncId}{e:Mp AV}{pl:List Tmp}{a b:Code}{st:LoopState}
theorem W.rangeNorm(hr:F.rnd=false)(hg:F.opv g=some (.func (.func fid) first capt))
  (hc:Cl X fid ((first++[.yield F.hp.next])++capt) (F.hp.new (.loop F.f (F.e.map noBox) params.toList assign body .ready none)) (.ret v h up))
  (hb:h.get F.hp.next=some (.loop f e pl a b st none)) (hs:st≠.busy)
  (hq:Q (.norm { F with hp:=h.put F.hp.next (.loop f e pl a b .exhausted none) })):W X (.rangeFunc g params assign body) F Q:=by
 obtain⟨n,hn⟩:=hc;refine⟨_,Ev.step ⟨n,fun m hm=>?_⟩,hq⟩;simp only[evStep,hr,Bool.false_eq_true,if_false,hg,hn m hm,hb,if_neg hs]
theorem W.rangeRet(hr:F.rnd=false)(hg:F.opv g=some (.func (.func fid) first capt))
  (hc:Cl X fid ((first++[.yield F.hp.next])++capt) (F.hp.new (.loop F.f (F.e.map noBox) params.toList assign body .ready none)) (.ret v h up))
  (hb:h.get F.hp.next=some (.loop f e pl a b st (some .ret))) (hs:st≠.busy)
  (hq:Q (.ret { F with hp:=h.put F.hp.next (.loop f e pl a b .exhausted (some .ret)) })):W X (.rangeFunc g params assign body) F Q:=by
 obtain⟨n,hn⟩:=hc;refine⟨_,Ev.step ⟨n,fun m hm=>?_⟩,hq⟩;simp only[evStep,hr,Bool.false_eq_true,if_false,hg,hn m hm,hb,if_neg hs]
end
def roundQ(X:Ctx)(id:Nat)(R:COut->Prop):Out->Prop:=fun o=>R (roundEnd X.P id o)
def RdR(X:Ctx)(id:Nat)(args:List AV)(h:Heap)(R:COut->Prop):Prop:=∃r,(∃n,∀m,n <=m->roundV X (ev X m) id args h=r)/\R r
theorem round_ok{X:Ctx}{id:Nat}{args:List AV}{h:Heap}{f:FuncId}{e e':Mp AV}{ps:List Tmp}{a b:Code}{p:Option Code}{R:COut->Prop}
  (h1:h.get id=some (.loop f e ps a b .ready p)) (h2:setParams ps args e=some e')
  (h3:W X a (Fr.mk f true e' .nil h [] none) (thenQ (fun F1=>F1.hp=h/\W X b { F1 with hp:=h.put id (.loop f e ps a b .busy p) } (roundQ X id R)) (fun _=>False))):RdR X id args h R:=by
 obtain⟨o,⟨n,hn⟩,hq⟩:=h3;cases o with
 |norm F1=>
  obtain⟨e1,o2,⟨n2,hn2⟩,hq2⟩:=hq;refine⟨_,⟨max n n2,fun m hm=>?_⟩,hq2⟩;simp only[roundV,h1,h2,hn m (by omega),e1,hn2 m (by omega)]
 |exit i F'=>exact hq.elim
 |ret F'=>exact hq.elim
 |pan v F'=>exact hq.elim
 |fail=>exact hq.elim
theorem round_ok'{X:Ctx}{id:Nat}{args:List AV}{h:Heap}{f:FuncId}{e e':Mp AV}{ps:List Tmp}{a b:Code}{p:Option Code}{R:COut->Prop}
  (h1:h.get id=some (.loop f e ps a b .ready p)) (h2:setParams ps args e=some e')
  (h3:W X a (Fr.mk f true e' .nil h [] none) (thenQ (fun F1=>F1.hp=h/\∀hq:Heap,hq.next=h.next->(∀j,j≠id->hq.get j=h.get j)->hq.get id=some (.loop f e ps a b .busy p)->W X b { F1 with hp:=hq } (roundQ X id R)) (fun _=>False))):RdR X id args h R:=by
 refine round_ok h1 h2 (h3.mono fun o q=>?_);cases o with
 |norm F1=>
  refine⟨q.1,q.2 _ rfl (fun j hj=>?_) ?_⟩
  ·rw[Heap.get_put,if_neg (Ne.symm hj)]
  ·rw[Heap.get_put,if_pos rfl]
 |exit i F'=>exact q
 |ret F'=>exact q
 |pan v F'=>exact q
 |fail=>exact q
theorem roundQ_norm{X:Ctx}{id:Nat}{R:COut->Prop}{F:Fr}:roundQ X id R (.norm F)↔R (endV id F .ready none true):=Iff.rfl
theorem roundQ_ret{X:Ctx}{id:Nat}{R:COut->Prop}{F:Fr}:roundQ X id R (.ret F)↔R (endV id F .done (some .ret) false):=Iff.rfl
section
variable{X:Ctx}{f:FuncId}{ops:Array Oper}{ts:List (Nat×Trace)}{i k j:Nat}{r:List (Nat×Nat)}{x y o:Oper}{d:Option Tmp}{op:Op}{T:TypeId}{ps:String}{af:Array Edge}{want b:Bool}{s:Tmp}
  {f1 f2:FuncId} {r1 r2:Bool} {e1 e2:Mp AV} {lm1 lm2:Mp (Nat×List AV)} {hp1 hp2:Heap} {df1 df2:List (AV×List AV)} {up1 up2:Option (AV×Bool)} {v1 v2:AV} {a1 b2:Fr}
end
end Go.AM
namespace Go.AM
open Go Go.Proofs
variable[Keep]
attribute [local irreducible] W WO WO1 WD WQ WT thenQ blockQ endR isRet retK Cl ClR
attribute [local irreducible] roundQ RdR
section
variable{α σ:Type}
def foldS(f:α->σ->σ×Bool):List α->σ->σ×Bool
 | [],s=>(s,true)
 |x::r,s=>if (f x s).2 then foldS f r (f x s).1 else f x s
theorem foldS_go{f:α->σ->σ×Bool}{s s':σ}:∀{l r:List α},foldS f l s=(s',true)->foldS f (l++r) s=foldS f r s':=by
 intro l;induction l generalizing s with
 |nil=>intro r h;simp only[foldS,Prod.mk.injEq,and_true]at h;subst h;rfl
 |cons x l ih=>
  intro r h;simp only[List.cons_append,foldS]at h ⊢;split at h
  ·rename_i q;rw[if_pos q];exact ih h
  ·rename_i q;rw[h]at q;exact absurd rfl q
theorem foldS_stop{f:α->σ->σ×Bool}{s s':σ}:∀{l r:List α},foldS f l s=(s',false)->foldS f (l++r) s=(s',false):=by
 intro l;induction l generalizing s with
 |nil=>intro r h;simp[foldS]at h
 |cons x l ih=>
  intro r h;simp only[List.cons_append,foldS]at h ⊢;split at h
  ·rename_i q;rw[if_pos q];exact ih h
  ·rename_i q;rw[if_neg q];exact h
theorem foldS_one{f:α->σ->σ×Bool}{s s':σ}{l:List α}{x:α}(h:foldS f l s=(s',true)):foldS f (l++[x]) s=f x s':=by
 rw[foldS_go h];simp only[foldS];split
 ·rename_i q;rw[<-q]
 ·rfl
theorem foldS_pre{f:α->σ->σ×Bool}{s s':σ}{l L:List α}(hp:l <+:L)(h:foldS f l s=(s',false)):foldS f L s=(s',false):=by
 obtain⟨r,rfl⟩:=hp;exact foldS_stop h
end
def stI{σ:Type}(I D:σ->Heap->Prop)(v:Bool->AV)(x:σ×Bool)(r:COut):Prop:=∃h',r= .ret (v x.2) h' none/\(x.2=true->I x.1 h')/\(x.2=false->D x.1 h')
theorem stI_fail{σ:Type}{I D:σ->Heap->Prop}{v:Bool->AV}{x:σ×Bool}:¬stI I D v x .fail:=by rintro⟨h',e,_⟩;cases e
theorem W.rangeEnds{X:Ctx}{F:Fr}{Q:Out->Prop}{g:Operand}{params:Array Tmp}{assign body:Code}{fid:FuncId}{first capt:List AV}{R:COut->Prop}(hg:F.opv g=some (.func (.func fid) first capt))
  (hc:ClR X fid ((first++[.yield F.hp.next])++capt) (F.hp.new (.loop F.f (F.e.map noBox) params.toList assign body .ready none)) R)
  (h:∀r,Cl X fid ((first++[.yield F.hp.next])++capt) (F.hp.new (.loop F.f (F.e.map noBox) params.toList assign body .ready none)) r->R r->W X (.rangeFunc g params assign body) F Q):W X (.rangeFunc g params assign body) F Q:=by
 unfold ClR at hc;obtain⟨r,h1,h2⟩:=hc;exact h r h1 h2
theorem stI_go{σ:Type}{I D:σ->Heap->Prop}{v:Bool->AV}{x:σ×Bool}{s':σ}{h':Heap}(e:x=(s',true))(i:I s' h'):stI I D v x (.ret (v true) h' none):=by
 subst e;exact⟨h',rfl,fun _=>i,fun e=>by cases e⟩
theorem stI_end{σ:Type}{I D:σ->Heap->Prop}{v:Bool->AV}{x:σ×Bool}{s':σ}{h':Heap}(e:x=(s',false))(i:D s' h'):stI I D v x (.ret (v false) h' none):=by
 subst e;exact⟨h',rfl,(fun e=>by cases e),fun _=>i⟩
theorem round_go{σ:Type}{I D:σ->Heap->Prop}{X:Ctx}{id:Nat}{F:Fr}{x:σ×Bool}{s':σ}{f:FuncId}{e:Mp AV}{ps:List Tmp}{a b:Code}{st:LoopState}{p:Option Code}{h:Heap}(hL:h.get id=some (.loop f e ps a b st p))(hF:F.hp.get id=h.get id)(e1:x=(s',true))
  (hI:I s' (F.hp.put id (.loop f e ps a b .ready none))):roundQ X id (stI I D .bool x) (.norm F):=by
 rw[roundQ_norm];simp only[endV,hF.trans hL];exact stI_go (v:=.bool) e1 hI
theorem round_end{σ:Type}{I D:σ->Heap->Prop}{X:Ctx}{id:Nat}{F:Fr}{x:σ×Bool}{s':σ}{f:FuncId}{e:Mp AV}{ps:List Tmp}{a b:Code}{st:LoopState}{p:Option Code}{h:Heap}(hL:h.get id=some (.loop f e ps a b st p))(hF:F.hp.get id=h.get id)(e1:x=(s',false))
  (hD:D s' (F.hp.put id (.loop f e ps a b .done (some .ret)))):roundQ X id (stI I D .bool x) (.ret F):=by
 rw[roundQ_ret];simp only[endV,hF.trans hL];exact stI_end (v:=.bool) e1 hD
theorem W.rangeSt{X:Ctx}{F:Fr}{Q:Out->Prop}{g:Operand}{params:Array Tmp}{assign body:Code}{fid:FuncId}{first capt:List AV}{σ:Type}(I:Heap->σ->Heap->Prop)(D:σ->Heap->Prop)(x:σ×Bool)(hr:F.rnd=false)(hg:F.opv g=some (.func (.func fid) first capt))
  (hc:ClR X fid ((first++[.yield F.hp.next])++capt) (F.hp.new (.loop F.f (F.e.map noBox) params.toList assign body .ready none)) (stI (I (F.hp.new (.loop F.f (F.e.map noBox) params.toList assign body .ready none))) D (fun _=>.tuple []) x))
  (hL:∀s h,I (F.hp.new (.loop F.f (F.e.map noBox) params.toList assign body .ready none)) s h->h.get F.hp.next=some (.loop F.f (F.e.map noBox) params.toList assign body .ready none))
  (hn:x.2=true->∀h,I (F.hp.new (.loop F.f (F.e.map noBox) params.toList assign body .ready none)) x.1 h->Q (.norm { F with hp:=h.put F.hp.next (.loop F.f (F.e.map noBox) params.toList assign body .exhausted none) }))
  (hD:x.2=false->∀h,D x.1 h->∃f e pl a b st,h.get F.hp.next=some (.loop f e pl a b st (some .ret))/\st≠.busy/\Q (.ret { F with hp:=h.put F.hp.next (.loop f e pl a b .exhausted (some .ret)) })):W X (.rangeFunc g params assign body) F Q:=by
 refine W.rangeEnds hg hc fun r hcl hR=>?_;obtain⟨h',rfl,i1,i2⟩:=hR;cases hb:x.2 with
 |true=>
  rw[hb]at hcl;exact W.rangeNorm hr hg hcl (hL _ _ (i1 hb)) (fun e=>by cases e) (hn hb h' (i1 hb))
 |false=>
  rw[hb]at hcl;obtain⟨f,e,pl,a,b,st,h1,h2,h3⟩:=hD hb h' (i2 hb);exact W.rangeRet hr hg hcl h1 h2 h3
end Go.AM
namespace Go.Mo7
def cnt(f:Nat->Bool):Nat:=(List.range 8).countP f
theorem countP_le{α:Type}{f g:α->Bool}:∀{l:List α},(∀x∈l,f x=true->g x=true)->l.countP f <=l.countP g:=fun {l} h=>by
 induction l with
 |nil=>simp
 |cons a l ih=>
  have ih:=ih fun x hx=>h x (by simp[hx]);have h1:=h a (by simp);rw[List.countP_cons,List.countP_cons];cases hf:f a with
  |false=>simp;omega
  |true=>rw[h1 hf];simp;omega
theorem countP_eq{α:Type}{f g:α->Bool}{l:List α}(h:∀x∈l,f x=g x):l.countP f=l.countP g:=
 Nat.le_antisymm (countP_le fun x hx e=>by rw[<-h x hx];exact e) (countP_le fun x hx e=>by rw[h x hx];exact e)
theorem countP_or{α:Type}{f g:α->Bool}:∀{l:List α},(∀x∈l,(f x&&g x)=false)->l.countP (fun x=>f x||g x)=l.countP f+l.countP g:=fun {l} h=>by
 induction l with
 |nil=>simp
 |cons a l ih=>
  have ih:=ih fun x hx=>h x (by simp[hx]);have h1:=h a (by simp);rw[List.countP_cons,List.countP_cons,List.countP_cons,ih];cases hf:f a<;>cases hg:g a<;>rw[hf,hg]at h1<;>simp at h1 ⊢<;>omega
theorem cnt_le{f g:Nat->Bool}(h:∀q,q<8->f q=true->g q=true):cnt f <=cnt g:=countP_le fun x hx=>h x (List.mem_range.1 hx)
theorem cnt_eq{f g:Nat->Bool}(h:∀q,q<8->f q=g q):cnt f=cnt g:=countP_eq fun x hx=>h x (List.mem_range.1 hx)
theorem cnt_or{f g:Nat->Bool}(h:∀q,q<8->(f q&&g q)=false):cnt (fun q=>f q||g q)=cnt f+cnt g:=countP_or fun x hx=>h x (List.mem_range.1 hx)
theorem cnt_no:cnt (fun _=>false)=0:=by unfold cnt;simp
theorem cnt_one{s:Nat}(hs:s<8):cnt (fun q=>s==q)=1:=by
 have:s=0\/s=1\/s=2\/s=3\/s=4\/s=5\/s=6\/s=7:=by omega
 rcases this with rfl|rfl|rfl|rfl|rfl|rfl|rfl|rfl<;>rfl
structure Mk7 where
 spot:Nat
 lo:Int
 hi:Int
def hasS(ms:List Mk7)(q:Nat):Bool:=ms.any fun x=>x.spot==q
def sureS(ms:List Mk7)(c:Int)(q:Nat):Bool:=ms.any fun x=>x.spot==q&&decide (x.hi <=c)
def canS(ms:List Mk7)(c:Int)(q:Nat):Bool:=ms.any fun x=>x.spot==q&&decide (x.lo <=c)
structure SpotOk(ms:List Mk7):Prop where
 lt:∀x∈ms,x.spot<8
 nd:(ms.map Mk7.spot).Nodup
 ord:∀x∈ms,x.lo <=x.hi
theorem SpotOk.tail{x:Mk7}{ms:List Mk7}(h:SpotOk (x::ms)):SpotOk ms:=
 ⟨fun y hy=>h.lt y (by simp[hy]),(List.nodup_cons.1 h.nd).2,fun y hy=>h.ord y (by simp[hy])⟩
theorem SpotOk.ne{x:Mk7}{ms:List Mk7}(h:SpotOk (x::ms)):∀y∈ms,y.spot≠x.spot:=fun y hy e=>
 (List.nodup_cons.1 h.nd).1 (by rw[<-e];exact List.mem_map.2 ⟨y,hy,rfl⟩)
theorem cnt_marks(P:Mk7->Bool):∀{ms:List Mk7},SpotOk ms->ms.countP P=cnt fun q=>ms.any fun x=>x.spot==q&&P x
 | [],_=>by simp[cnt_no]
 | x :: ms, h => by
  have ih:=cnt_marks P h.tail;have hx:=h.lt x (by simp);have e:cnt (fun q=>(x::ms).any fun y=>y.spot==q&&P y)=cnt (fun q=>(x.spot==q&&P x)||(ms.any fun y=>y.spot==q&&P y)):=cnt_eq fun q _=>by rw[List.any_cons]
  rw[e,cnt_or,<-ih,List.countP_cons]
  ·have:cnt (fun q=>x.spot==q&&P x)=if P x=true then 1 else 0:=by
    cases P x with
    |true=>simpa using cnt_one hx
    |false=>simpa using cnt_no
   rw[this];omega
  ·intro q _
   cases hq:(x.spot==q)with
   |false=>simp
   | true =>
    have hq:x.spot=q:=by simpa using hq
    have:(ms.any fun y=>y.spot==q&&P y)=false:=by
     rw[List.any_eq_false];intro y hy;have:=h.ne y hy;simp[<-hq,this]
    rw[this];simp
theorem can_has{ms:List Mk7}{c:Int}{q:Nat}(h:canS ms c q=true):hasS ms q=true:=by
 unfold canS hasS at *;rw[List.any_eq_true]at *;obtain⟨x,hx,hq⟩:=h;rw[Bool.and_eq_true]at hq;exact⟨x,hx,hq.1⟩
theorem sure_can{ms:List Mk7}(ok:SpotOk ms){c:Int}{q:Nat}(h:sureS ms c q=true):canS ms c q=true:=by
 unfold sureS canS at *;rw[List.any_eq_true]at *;obtain⟨x,hx,hq⟩:=h;rw[Bool.and_eq_true,decide_eq_true_eq]at hq;exact⟨x,hx,by rw[Bool.and_eq_true,decide_eq_true_eq];exact⟨hq.1,by have:=ok.ord x hx;omega⟩⟩
def missM(ms:List Mk7)(c:Int)(seen:Nat->Bool):Nat:=ms.countP fun x=>!seen x.spot&&decide (x.hi <=c)
def ghostM(ms:List Mk7)(c:Int)(seen:Nat->Bool):Nat:=ms.countP fun x=>seen x.spot&&decide (x.lo>c)
theorem miss_cnt{ms:List Mk7}(ok:SpotOk ms)(c:Int)(seen:Nat->Bool):missM ms c seen=cnt fun q=>sureS ms c q&&!seen q:=by
 unfold missM;rw[cnt_marks _ ok];refine cnt_eq fun q _=>?_;unfold sureS;rw[Bool.eq_iff_iff];simp only[List.any_eq_true,Bool.and_eq_true,Bool.not_eq_true',decide_eq_true_eq,beq_iff_eq];constructor
 ·rintro⟨x,hx,rfl,h1,h2⟩
  exact⟨⟨x,hx,rfl,h2⟩,h1⟩
 ·rintro⟨⟨x,hx,rfl,h2⟩,h1⟩
  exact⟨x,hx,rfl,h1,h2⟩
theorem has_one:∀{ms:List Mk7},SpotOk ms->∀{x y:Mk7},x∈ms->y∈ms->x.spot=y.spot->x=y
 | [],_,x,y,hx,_,_=>by cases hx
 | z :: ms, ok, x, y, hx, hy, e => by
  rcases List.mem_cons.1 hx with h1|h1
  ·rcases List.mem_cons.1 hy with h2|h2
   ·rw[h1,h2]
   ·subst h1;exact absurd e.symm (ok.ne y h2)
  ·rcases List.mem_cons.1 hy with h2|h2
   ·subst h2;exact absurd e (ok.ne x h1)
   ·exact has_one ok.tail h1 h2 e
theorem ghost_cnt{ms:List Mk7}(ok:SpotOk ms)(c:Int)(seen:Nat->Bool):ghostM ms c seen=cnt fun q=>hasS ms q&&(seen q&&!canS ms c q):=by
 unfold ghostM;rw[cnt_marks _ ok];refine cnt_eq fun q _=>?_;unfold hasS canS;rw[Bool.eq_iff_iff];simp only[List.any_eq_true,Bool.and_eq_true,Bool.not_eq_true',List.any_eq_false,decide_eq_true_eq,beq_iff_eq];constructor
 ·rintro⟨x,hx,rfl,h1,h2⟩
  refine⟨⟨x,hx,rfl⟩,h1,fun y hy h3=>?_⟩;have:=has_one ok hy hx h3.1;subst this;omega
 ·rintro⟨⟨x,hx,rfl⟩,h1,h2⟩
  refine⟨x,hx,rfl,h1,?_⟩;have:=h2 x hx;simp only[not_and,true_implies]at this;omega
structure Lv where
 ms:List Mk7
 lo:Int
 hi:Int
def hasL(r:List Lv)(q:Nat):Bool:=r.any fun v=>hasS v.ms q
inductive Born:List Lv->(Nat->Bool)->Prop
 |nil:Born [] fun _=>false
 |cons {v:Lv} {r:List Lv} {c:Int} {p own:Nat->Bool}:v.lo <=c->c <=v.hi->Born r p->(∀q,own q=true->canS v.ms c q=true)->(∀q,sureS v.ms c q=true->own q=true)->Born (v::r) fun q=>p q||own q
inductive Reads(seen:Nat->Bool):List Lv->Int->Int->Prop
 |nil {M G:Int}:0 <=M->0 <=G->Reads seen [] M G
 |cons {v:Lv} {r:List Lv} {c M G:Int}:v.lo <=c->c <=v.hi->Reads seen r (M - missM v.ms c seen) (G - ghostM v.ms c seen)->Reads seen (v::r) M G
theorem Reads.pos{seen:Nat->Bool}{r:List Lv}{M G:Int}(h:Reads seen r M G):0 <=M/\0 <=G:=by
 induction h with
 |nil h1 h2=>exact⟨h1,h2⟩
 |cons _ _ _ ih=>omega
inductive LineOk:List Lv->Prop
 |nil:LineOk []
 |cons {v:Lv} {r:List Lv}:SpotOk v.ms->LineOk r->(∀q,(hasS v.ms q&&hasL r q)=false)->LineOk (v::r)
theorem born_has{r:List Lv}{n:Nat->Bool}(h:Born r n):∀q,n q=true->hasL r q=true:=by
 induction h with
 |nil=>intro q hq;cases hq
 |cons h1 h2 _ h4 h5 ih=>
  intro q hq;unfold hasL;rw[List.any_cons,Bool.or_eq_true];rw[Bool.or_eq_true]at hq;rcases hq with hq|hq
  ·exact .inr (ih q hq)
  ·exact .inl (can_has (h4 q hq))
def missN(n seen:Nat->Bool):Nat:=cnt fun q=>n q&&!seen q
def ghostN(r:List Lv)(n seen:Nat->Bool):Nat:=cnt fun q=>hasL r q&&(seen q&&!n q)
theorem miss_cons{v:Lv}{r:List Lv}(ok:LineOk (v::r)){c:Int}{p own seen:Nat->Bool}(hb:Born r p)(h4:∀q,own q=true->canS v.ms c q=true):missN (fun q=>p q||own q) seen=missN p seen+missN own seen:=by
 unfold missN;rw[<-cnt_or]
 ·refine cnt_eq fun q _=>?_
  show ((p q||own q)&&!seen q)=((p q&&!seen q)||(own q&&!seen q));cases p q<;>cases own q<;>cases seen q<;>rfl
 ·intro q _
  cases ok with
  | cons _ _ h3 =>
   have h6:=h3 q;cases hp:p q with
   |false=>simp
   |true=>
    rw[born_has hb q hp,Bool.and_true]at h6;cases ho:own q with
    |false=>simp
    |true=>rw[can_has (h4 q ho)]at h6;cases h6
theorem ghost_cons{v:Lv}{r:List Lv}(ok:LineOk (v::r)){c:Int}{p own seen:Nat->Bool}(hb:Born r p)(h4:∀q,own q=true->canS v.ms c q=true):ghostN (v::r) (fun q=>p q||own q) seen=ghostN r p seen+cnt fun q=>hasS v.ms q&&(seen q&&!own q):=by
 unfold ghostN;rw[<-cnt_or]
 ·refine cnt_eq fun q _=>?_
  show (hasL (v::r) q&&(seen q&&!(p q||own q)))=((hasL r q&&(seen q&&!p q))||(hasS v.ms q&&(seen q&&!own q)));unfold hasL;rw[List.any_cons];cases ok with
  | cons _ _ h3 =>
   have h6:=h3 q;unfold hasL at h6;cases hs:hasS v.ms q with
   | true =>
    rw[hs,Bool.true_and]at h6;have hp:p q=false:=by
     cases hp:p q with
     |false=>rfl
     |true=>have:=born_has hb q hp;unfold hasL at this;rw[this]at h6;cases h6
    rw[h6,hp];cases own q<;>cases seen q<;>rfl
   | false =>
    have ho:own q=false:=by
     cases ho:own q with
     |false=>rfl
     |true=>rw[can_has (h4 q ho)]at hs;cases hs
    rw[ho];cases (r.any fun v=>hasS v.ms q)<;>cases p q<;>cases seen q<;>rfl
 ·intro q _
  cases ok with
  |cons _ _ h3=>
   have h6:=h3 q;cases hs:hasS v.ms q<;>cases hr:hasL r q<;>rw[hs,hr]at h6<;>simp at h6 ⊢
theorem born_reads{seen:Nat->Bool}:∀{r:List Lv} {M G:Int},LineOk r->((∃n,Born r n/\(missN n seen:Int) <=M/\(ghostN r n seen:Int) <=G)↔Reads seen r M G)
 | [], M, G, _ => by
  constructor
  ·rintro⟨n,hn,h1,h2⟩
   exact .nil (by omega) (by omega)
  ·intro h
   have hp:=h.pos;refine⟨_,.nil,?_,?_⟩
   ·have:missN (fun _=>false) seen=0:=by unfold missN;simpa using cnt_no
    rw[this];omega
   ·have:ghostN [] (fun _=>false) seen=0:=by unfold ghostN hasL;simpa using cnt_no
    rw[this];omega
 | v :: r, M, G, ok => by
  have okv:SpotOk v.ms:=by cases ok;assumption
  have okr:LineOk r:=by cases ok;assumption
  constructor
  ·rintro⟨n,hn,h1,h2⟩
   cases hn with
   | cons g1 g2 hb h4 h5 =>
    rename_i c p own;rw[miss_cons ok hb h4]at h1;rw[ghost_cons ok hb h4]at h2;have k1:missM v.ms c seen <=missN own seen:=by
     rw[miss_cnt okv];refine cnt_le fun q _ hq=>?_;rw[Bool.and_eq_true]at hq ⊢;exact⟨h5 q hq.1,hq.2⟩
    have k2:ghostM v.ms c seen <=cnt fun q=>hasS v.ms q&&(seen q&&!own q):=by
     rw[ghost_cnt okv];refine cnt_le fun q _ hq=>?_;simp only[Bool.and_eq_true,Bool.not_eq_true']at hq ⊢;refine⟨hq.1,hq.2.1,?_⟩;cases ho:own q with
     |false=>rfl
     |true=>have:=h4 q ho;rw[hq.2.2]at this;cases this
    exact .cons g1 g2 ((born_reads okr).1 ⟨p,hb,by omega,by omega⟩)
  ·intro h
   cases h with
   | cons g1 g2 hr =>
    rename_i c;obtain⟨p,hb,h1,h2⟩:=(born_reads okr).2 hr;have h4:∀q,(sureS v.ms c q||(canS v.ms c q&&seen q))=true->canS v.ms c q=true:=fun q hq=>by
     rw[Bool.or_eq_true,Bool.and_eq_true]at hq;rcases hq with hq|hq
     ·exact sure_can okv hq
     ·exact hq.1
    refine⟨_,.cons (own:=fun q=>sureS v.ms c q||(canS v.ms c q&&seen q)) g1 g2 hb h4 (fun q hq=>by simp[hq]),?_,?_⟩
    ·rw[miss_cons ok hb h4]
     have:missN (fun q=>sureS v.ms c q||(canS v.ms c q&&seen q)) seen=missM v.ms c seen:=by
      rw[miss_cnt okv];unfold missN;refine cnt_eq fun q _=>?_;show ((sureS v.ms c q||(canS v.ms c q&&seen q))&&!seen q)=(sureS v.ms c q&&!seen q);cases sureS v.ms c q<;>cases canS v.ms c q<;>cases seen q<;>rfl
     rw[this];omega
    ·rw[ghost_cons ok hb h4]
     have:(cnt fun q=>hasS v.ms q&&(seen q&&!(sureS v.ms c q||(canS v.ms c q&&seen q))))=ghostM v.ms c seen:=by
      rw[ghost_cnt okv];refine cnt_eq fun q _=>?_;cases hs:sureS v.ms c q with
      |false=>cases canS v.ms c q<;>cases seen q<;>simp
      |true=>rw[sure_can okv hs];simp
     rw[this];omega
def AgrP(ms:List Mk7)(r:List Lv)(s:Int)(seen:Nat->Bool)(M G:Int):Prop:=
 ∃n,Born r n/\((cnt fun q=>(n q||sureS ms s q)&&!seen q):Int) <=M/\((cnt fun q=>seen q&&!(n q||canS ms s q)):Int) <=G
def strangeL(r:List Lv)(seen:Nat->Bool):Nat:=cnt fun q=>seen q&&!hasL r q
theorem agr_law{ms:List Mk7}{r:List Lv}{s:Int}{seen:Nat->Bool}{M G:Int}(ok:LineOk (⟨ms,s,s⟩::r)) :
  AgrP ms r s seen M G↔Reads seen (⟨ms,s,s⟩::r) M (G - strangeL (⟨ms,s,s⟩::r) seen):=by
 have okv:SpotOk ms:=by cases ok;assumption
 have okr:LineOk r:=by cases ok;assumption
 have hdis:∀q,(hasS ms q&&hasL r q)=false:=by cases ok;assumption
 have key:∀n,Born r n->(cnt fun q=>(n q||sureS ms s q)&&!seen q)=missN n seen+missM ms s seen/\(cnt fun q=>seen q&&!(n q||canS ms s q))=ghostN r n seen+ghostM ms s seen+strangeL (⟨ms,s,s⟩::r) seen:=fun n hb=>by
  constructor
  ·have:=miss_cons (seen:=seen) ok (own:=fun q=>sureS ms s q) (c:=s) hb (fun q hq=>sure_can okv hq)
   unfold missN at this;unfold missN;rw[this,miss_cnt okv]
  ·have h1:=ghost_cons (seen:=seen) ok (own:=fun q=>canS ms s q) (c:=s) hb (fun q hq=>hq)
   rw[<-ghost_cnt okv]at h1;rw[<-h1];unfold ghostN strangeL;rw[<-cnt_or]
   ·refine cnt_eq fun q _=>?_
    show (seen q&&!(n q||canS ms s q))=((hasL (⟨ms,s,s⟩::r) q&&(seen q&&!(n q||canS ms s q)))||(seen q&&!hasL (⟨ms,s,s⟩::r) q));have h2:n q=true->hasL (⟨ms,s,s⟩::r) q=true:=fun e=>by
     unfold hasL;rw[List.any_cons];have:=born_has hb q e;unfold hasL at this;rw[this,Bool.or_true]
    have h3:canS ms s q=true->hasL (⟨ms,s,s⟩::r) q=true:=fun e=>by
     unfold hasL;rw[List.any_cons,can_has e,Bool.true_or]
    cases hl:hasL (⟨ms,s,s⟩::r) q with
    |true=>cases n q<;>cases canS ms s q<;>cases seen q<;>rfl
    |false=>
     have a1:n q=false:=by cases e:n q with|false=>rfl|true=>rw[h2 e]at hl;cases hl
     have a2:canS ms s q=false:=by cases e:canS ms s q with|false=>rfl|true=>rw[h3 e]at hl;cases hl
     rw[a1,a2];cases seen q<;>rfl
   ·intro q _
    cases hasL (⟨ms,s,s⟩::r) q<;>simp
 constructor
 ·rintro⟨n,hb,h1,h2⟩
  obtain⟨k1,k2⟩:=key n hb;rw[k1]at h1;rw[k2]at h2;exact .cons (c:=s) (Int.le_refl _) (Int.le_refl _) ((born_reads okr).1 ⟨n,hb,by simp only;omega,by simp only;omega⟩)
 ·intro h
  cases h with
  |cons g1 g2 hr=>
   rename_i c;obtain rfl:c=s:=by simp only at g1 g2;omega
   obtain⟨n,hb,h1,h2⟩:=(born_reads okr).2 hr;obtain⟨k1,k2⟩:=key n hb;refine⟨n,hb,?_,?_⟩
   ·rw[k1];simp only at h1;omega
   ·rw[k2];simp only at h2;omega
def setN(n:Nat)(q:Nat):Bool:=n.testBit q
theorem setN_or(a b q:Nat):setN (a ||| b) q=(setN a q||setN b q):=Nat.testBit_or ..
theorem setN_and(a b q:Nat):setN (a &&& b) q=(setN a q&&setN b q):=Nat.testBit_and ..
theorem setN_zero(q:Nat):setN 0 q=false:=Nat.zero_testBit q
theorem setN_bit(s q:Nat):setN (2 ^ s) q=(s==q):=by
 unfold setN;rw[Nat.testBit_two_pow,Bool.eq_iff_iff];simp
theorem setN_lt{n q:Nat}(h:n<256)(hq:8 <=q):setN n q=false:=by
 unfold setN;exact Nat.testBit_lt_two_pow (Nat.lt_of_lt_of_le h (by
  have:2 ^ 8 <=2 ^ q:=Nat.pow_le_pow_right (by omega) hq;exact this))
theorem setN_ext{a b:Nat}(ha:a<256)(hb:b<256)(h:∀q,q<8->setN a q=setN b q):a=b:=by
 apply Nat.eq_of_testBit_eq;intro q;by_cases hq:q<8
 ·exact h q hq
 ·have h1:=setN_lt ha (q:=q) (by omega)
  have h2:=setN_lt hb (q:=q) (by omega);unfold setN at h1 h2;rw[h1,h2]
theorem or_lt{a b:Nat}(ha:a<256)(hb:b<256):a ||| b<256:=Nat.or_lt_two_pow (n:=8) ha hb
theorem ofInt_nat(m:Nat):BitVec.ofInt 64 (m:Int)=BitVec.ofNat 64 m:=by
 apply BitVec.eq_of_toInt_eq;simp[BitVec.toInt_ofInt,BitVec.toInt_ofNat]
theorem or_nat{a b:Nat}(ha:a<2 ^ 64)(hb:b<2 ^ 64):(BitVec.ofInt 64 (a:Int) ||| BitVec.ofInt 64 (b:Int)).toNat=a ||| b:=by
 rw[ofInt_nat,ofInt_nat,BitVec.toNat_or,BitVec.toNat_ofNat,BitVec.toNat_ofNat,Nat.mod_eq_of_lt ha,Nat.mod_eq_of_lt hb]
theorem and_nat{a b:Nat}(ha:a<2 ^ 64)(hb:b<2 ^ 64):(BitVec.ofInt 64 (a:Int) &&& BitVec.ofInt 64 (b:Int)).toNat=a &&& b:=by
 rw[ofInt_nat,ofInt_nat,BitVec.toNat_and,BitVec.toNat_ofNat,BitVec.toNat_ofNat,Nat.mod_eq_of_lt ha,Nat.mod_eq_of_lt hb]
def minN(a b:Nat):Nat:=(BitVec.ofInt 64 (a:Int) &&& ~~~ BitVec.ofInt 64 (b:Int)).toNat
theorem minN_le{a b:Nat}(ha:a<2 ^ 64):minN a b <=a:=by
 unfold minN;rw[BitVec.toNat_and,ofInt_nat,BitVec.toNat_ofNat,Nat.mod_eq_of_lt ha];exact Nat.and_le_left
theorem setN_min{a b q:Nat}(ha:a<256)(hb:b<256):setN (minN a b) q=(setN a q&&!setN b q):=by
 by_cases hq:q<64
 ·unfold setN minN
  rw[BitVec.testBit_toNat,BitVec.getLsbD_and,BitVec.getLsbD_not,ofInt_nat,ofInt_nat,BitVec.getLsbD_ofNat,BitVec.getLsbD_ofNat];simp[hq]
 ·have h1:=setN_lt (n:=minN a b) (q:=q) (Nat.lt_of_le_of_lt (minN_le (by omega)) ha) (by omega)
  have h2:=setN_lt ha (q:=q) (by omega);rw[h1,h2];rfl
theorem min_zero{a b:Nat}(ha:a<256)(hb:b<256):minN a b=0↔∀q,setN a q=true->setN b q=true:=by
 constructor
 ·intro h q hq
  have:=setN_min (q:=q) ha hb;rw[h,setN_zero,hq]at this;cases hs:setN b q with
  |true=>rfl
  |false=>rw[hs]at this;cases this
 ·intro h
  refine setN_ext (Nat.lt_of_le_of_lt (minN_le (by omega)) ha) (by omega) fun q _=>?_;rw[setN_min ha hb,setN_zero];cases hs:setN a q with
  |false=>rfl
  |true=>rw[h q hs];rfl
def numS(f:Nat->Bool):Nat:=(List.range 8).foldl (fun n q=>if f q then n ||| 2 ^ q else n) 0
theorem fold_bit(f:Nat->Bool):∀(l:List Nat) (n q:Nat),setN (l.foldl (fun n q=>if f q then n ||| 2 ^ q else n) n) q=(setN n q||(l.contains q&&f q))
 | [],n,q=>by simp
 | a :: l, n, q => by
  rw[List.foldl_cons,fold_bit f l,List.contains_cons];by_cases e:q=a
  ·subst e
   simp only[beq_self_eq_true,Bool.true_or,Bool.true_and];cases hf:f q with
   |true=>simp[setN_or,setN_bit]
   |false=>simp
  ·have h1:(q==a)=false:=by simp[e]
   rw[h1,Bool.false_or];cases hf:f a with
   |true=>
    have h2:(a==q)=false:=by simp only[beq_eq_false_iff_ne,ne_eq];exact fun x=>e x.symm
    simp[setN_or,setN_bit,h2]
   |false=>simp
theorem setN_num{f:Nat->Bool}{q:Nat}(hq:q<8):setN (numS f) q=f q:=by
 unfold numS;rw[fold_bit,setN_zero];have:(List.range 8).contains q=true:=by simp[hq]
 rw[this];simp
theorem numS_lt(f:Nat->Bool):numS f<256:=by
 unfold numS;have:∀(l:List Nat) (n:Nat),(∀q∈l,q<8)->n<256->l.foldl (fun n q=>if f q then n ||| 2 ^ q else n) n<256:=by
  intro l;induction l with
  |nil=>intro n _ h;exact h
  | cons a l ih =>
   intro n hl hn;rw[List.foldl_cons];refine ih _ (fun q hq=>hl q (by simp[hq])) ?_;split
   ·refine or_lt hn ?_
    have:=hl a (by simp);have:2 ^ a <=2 ^ 7:=Nat.pow_le_pow_right (by omega) (by omega);omega
   ·exact hn
 exact this _ 0 (fun q hq=>List.mem_range.1 hq) (by omega)
theorem numS_set{f:Nat->Bool}(h:∀q,f q=true->q<8)(q:Nat):setN (numS f) q=f q:=by
 by_cases hq:q<8
 ·exact setN_num hq
 ·rw[setN_lt (numS_lt f) (by omega)]
  cases hf:f q with
  |false=>rfl
  |true=>exact absurd (h q hf) hq
end Go.Mo7
namespace Go.AM
open Go
variable[Keep]
open Go.Mo7 (minN or_nat and_nat minN_le)
theorem i64_small{n:Nat}(h:n<2 ^ 62):IntKind.i64.wrap (n:Int)=(n:Int):=wrap_small (by omega) (by have:((2:Nat) ^ 62:Nat)=4611686018427387904:=rfl;omega)
theorem bitI_nat{r:Int}(h0:0 <=r)(h1:r <=60):bitI r=((2 ^ r.toNat:Nat):Int):=by
 unfold bitI;rw[Nat.min_eq_left (by omega),Int.one_mul];have:((2:Int) ^ r.toNat)=((2 ^ r.toNat:Nat):Int):=by simp
 rw[this,i64_small];exact Nat.pow_lt_pow_right (by omega) (by omega)
theorem orI_nat{a b:Nat}(ha:a<2 ^ 62)(hb:b<2 ^ 62):orI a b=((a ||| b:Nat):Int):=by
 unfold orI;rw[or_nat (by have:(2:Nat)^62<2^64:=(by decide);omega) (by have:(2:Nat)^62<2^64:=(by decide);omega),i64_small];exact Nat.or_lt_two_pow ha hb
def andI(a b:Int):Int:=IntKind.i64.wrap ((BitVec.ofInt 64 a &&& BitVec.ofInt 64 b).toNat)
theorem intOp_andI(a b:Int):intOp .and .i64 a b=some (.int .i64 (andI a b)):=rfl
theorem andI_nat{a b:Nat}(ha:a<2 ^ 62)(hb:b<2 ^ 62):andI a b=((a &&& b:Nat):Int):=by
 unfold andI;rw[and_nat (by have:(2:Nat)^62<2^64:=(by decide);omega) (by have:(2:Nat)^62<2^64:=(by decide);omega),i64_small];exact Nat.lt_of_le_of_lt Nat.and_le_left ha
def notI(a b:Int):Int:=IntKind.i64.wrap ((BitVec.ofInt 64 a &&& ~~~ BitVec.ofInt 64 b).toNat)
theorem intOp_notI(a b:Int):intOp .andNot .i64 a b=some (.int .i64 (notI a b)):=rfl
theorem notI_nat{a b:Nat}(ha:a<2 ^ 62)(hb:b<2 ^ 62):notI a b=((minN a b:Nat):Int):=by
 show IntKind.i64.wrap ((minN a b:Nat):Int)=_;rw[i64_small];exact Nat.lt_of_le_of_lt (minN_le (Nat.lt_trans ha (by decide))) ha
theorem op_or{a b:Nat}(ha:a<2 ^ 62)(hb:b<2 ^ 62):intOp .or .i64 a b=some (.int .i64 ((a ||| b:Nat):Int)):=by rw[intOp_orI,orI_nat ha hb]
theorem op_and{a b:Nat}(ha:a<2 ^ 62)(hb:b<2 ^ 62):intOp .and .i64 a b=some (.int .i64 ((a &&& b:Nat):Int)):=by rw[intOp_andI,andI_nat ha hb]
theorem op_not{a b:Nat}(ha:a<2 ^ 62)(hb:b<2 ^ 62):intOp .andNot .i64 a b=some (.int .i64 ((minN a b:Nat):Int)):=by rw[intOp_notI,notI_nat ha hb]
end Go.AM
