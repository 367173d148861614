/-
    A part of the proof: contracts of functions.
-/
import Derived.Test.YtgihdicidaipmaaGreatDoorTAC
import Derived.ChangeArms
import Derived.Lib.LaidTab
import Derived.KernelRfl
import Derived.Test.YtgihdicidaipmaaGreatDoorProg
import Derived.Lib.Hide
set_option linter.unusedSimpArgs false
set_option linter.unusedVariables false
set_option linter.unusedSectionVars false
namespace Go.AM
open Go
variable[Keep]
def Ev(X:Ctx)(c:Code)(F:Fr)(o:Out):Prop:=∃n,∀m,n <=m->ev X m c F=o
def W(X:Ctx)(c:Code)(F:Fr)(Q:Out->Prop):Prop:=∃o,Ev X c F o/\Q o
def WO(X:Ctx)(ops:Array Oper)(l:List Oper)(F:Fr)(Q:Out->Prop):Prop:=∃o,(∃n,∀m,n <=m->runOps X (callF X (ev X m)) (roundV X (ev X m)) ops l F=o)/\Q o
def thenQ(K:Fr->Prop)(Q:Out->Prop):Out->Prop
 | .norm F=>K F
 |o=>Q o
def blockQ(id:Nat)(Q:Out->Prop):Out->Prop
 | .exit i F=>if i=id then Q (.norm F)else Q (.exit i F)
 |o=>Q o
section
variable{X:Ctx}{F:Fr}{Q:Out->Prop}
theorem Ev.step{c:Code}{o:Out}(h:∃n,∀m,n <=m->evStep X (ev X m) c F=o):Ev X c F o:=by
 obtain⟨n,hn⟩:=h;refine⟨n+1,fun m hm=>?_⟩;obtain⟨k,rfl⟩:∃k,m=k+1:=⟨m - 1,by omega⟩;exact hn k (by omega)
theorem Y1{a b:Code}(h:W X a F (thenQ (fun F'=>W X b F' Q) Q)):W X (.seq a b) F Q:=by
 obtain⟨o,⟨n,hn⟩,hq⟩:=h;cases o with
 |norm F'=>
  obtain⟨o2,⟨n2,hn2⟩,hq2⟩:=hq;exact⟨o2,Ev.step ⟨max n n2,fun m hm=>by simp[evStep,hn m (by omega),hn2 m (by omega)]⟩,hq2⟩
 |exit i F'=>exact⟨_,Ev.step ⟨n,fun m hm=>by simp[evStep,hn m hm]⟩,hq⟩
 |ret F'=>exact⟨_,Ev.step ⟨n,fun m hm=>by simp[evStep,hn m hm]⟩,hq⟩
 |pan v F'=>exact⟨_,Ev.step ⟨n,fun m hm=>by simp[evStep,hn m hm]⟩,hq⟩
 |fail=>exact⟨_,Ev.step ⟨n,fun m hm=>by simp[evStep,hn m hm]⟩,hq⟩
theorem Y8(h:Q (.norm F)):W X .skip F Q:=⟨_,Ev.step ⟨0,fun _ _=>rfl⟩,h⟩
theorem W.label{l:Nat}(h:Q (.norm F)):W X (.label l) F Q:=⟨_,Ev.step ⟨0,fun _ _=>rfl⟩,h⟩
theorem Y9{i:Nat}(h:Q (.exit i F)):W X (.exit i) F Q:=⟨_,Ev.step ⟨0,fun _ _=>rfl⟩,h⟩
theorem Y7(h:Q (.ret F)):W X .ret F Q:=⟨_,Ev.step ⟨0,fun _ _=>rfl⟩,h⟩
theorem U8{id:Nat}{b:Code}(h:W X b F (blockQ id Q)):W X (.block id b) F Q:=by
 obtain⟨o,⟨n,hn⟩,hq⟩:=h;cases o with
 | exit i F' =>
  by_cases e:i=id
  ·simp only[blockQ,e,if_true]at hq
   exact⟨_,Ev.step ⟨n,fun m hm=>by simp only[evStep,hn m hm,e,if_true]⟩,hq⟩
  ·simp only[blockQ,e,if_false]at hq
   exact⟨_,Ev.step ⟨n,fun m hm=>by simp only[evStep,hn m hm,e,if_false]⟩,hq⟩
 |norm F'=>exact⟨_,Ev.step ⟨n,fun m hm=>by simp[evStep,hn m hm]⟩,hq⟩
 |ret F'=>exact⟨_,Ev.step ⟨n,fun m hm=>by simp[evStep,hn m hm]⟩,hq⟩
 |pan v F'=>exact⟨_,Ev.step ⟨n,fun m hm=>by simp[evStep,hn m hm]⟩,hq⟩
 |fail=>exact⟨_,Ev.step ⟨n,fun m hm=>by simp[evStep,hn m hm]⟩,hq⟩
theorem U9{b:Code}(h:W X b F Q):W X (.scope b) F Q:=by
 obtain⟨o,⟨n,hn⟩,hq⟩:=h;exact⟨o,Ev.step ⟨n,fun m hm=>by simp[evStep,hn m hm]⟩,hq⟩
def condQ(v:Option AV)(A B:Prop):Prop:=match v with|some (.bool true)=>A|some (.bool false)=>B|_=>False
theorem W.cond{c:Operand}{x y:Code}(h:condQ (F.opd c) (W X x F Q) (W X y F Q)):W X (.cond c x y) F Q:=by
 unfold condQ at h;split at h
 ·rename_i e
  obtain⟨o,⟨n,hn⟩,hq⟩:=h;exact⟨o,Ev.step ⟨n,fun m hm=>by simp[evStep,e,hn m hm]⟩,hq⟩
 ·rename_i e
  obtain⟨o,⟨n,hn⟩,hq⟩:=h;exact⟨o,Ev.step ⟨n,fun m hm=>by simp[evStep,e,hn m hm]⟩,hq⟩
 ·exact h.elim
theorem Y4{c:Operand}{x y:Code}(e:F.opd c=some (.bool true))(h:W X x F Q):W X (.cond c x y) F Q:=W.cond (by unfold condQ;rw[e];exact h)
theorem Y5{c:Operand}{x y:Code}(e:F.opd c=some (.bool false))(h:W X y F Q):W X (.cond c x y) F Q:=W.cond (by unfold condQ;rw[e];exact h)
theorem Y6{c:Operand}{x y:Code}{b:Bool}(e:F.opd c=some (.bool b))(h12:(b=true->W X x F Q)/\(b=false->W X y F Q)):W X (.cond c x y) F Q:=by
 cases b
 ·exact Y5 e (h12.2 rfl)
 ·exact Y4 e (h12.1 rfl)
theorem U7{id:Nat}{ops:Array Oper}(h:WO X ops ops.toList F Q):W X (.region id ops false) F Q:=by
 obtain⟨o,⟨n,hn⟩,hq⟩:=h;exact⟨o,Ev.step ⟨n,fun m hm=>by simp[evStep,hn m hm]⟩,hq⟩
theorem W.mono{c:Code}{Q':Out->Prop}(h:W X c F Q)(hq:∀o,Q o->Q' o):W X c F Q':=let ⟨o,e,q⟩:=h;⟨o,e,hq _ q⟩
theorem W.loop{body:Code}(I:Fr->Prop)(μ:Fr->Nat)(h0:I F)(round:∀F,I F->W X body F (thenQ (fun F'=>I F' /\ μ F'<μ F) Q)):W X (.loop body) F Q:=by
 have key:∀k F,μ F=k->I F->W X (.loop body) F Q:=by
  intro k;induction k using Nat.strongRecOn with
  | _ k ih =>
   intro F hk hI;obtain⟨o,⟨n,hn⟩,hq⟩:=round F hI;cases o with
   |norm F'=>
    obtain⟨o2,⟨n2,hn2⟩,hq2⟩:=ih _ (hk▸hq.2) F' rfl hq.1;exact⟨o2,Ev.step ⟨max n n2,fun m hm=>by simp[evStep,hn m (by omega),hn2 m (by omega)]⟩,hq2⟩
   |exit i F'=>exact⟨_,Ev.step ⟨n,fun m hm=>by simp[evStep,hn m hm]⟩,hq⟩
   |ret F'=>exact⟨_,Ev.step ⟨n,fun m hm=>by simp[evStep,hn m hm]⟩,hq⟩
   |pan v F'=>exact⟨_,Ev.step ⟨n,fun m hm=>by simp[evStep,hn m hm]⟩,hq⟩
   |fail=>exact⟨_,Ev.step ⟨n,fun m hm=>by simp[evStep,hn m hm]⟩,hq⟩
 exact key _ F rfl h0
end
section
variable{X:Ctx}{ops:Array Oper}{o:Oper}{l:List Oper}{F:Fr}{Q:Out->Prop}
theorem Y3(h:Q (.norm F)):WO X ops [] F Q:=⟨_,⟨0,fun _ _=>rfl⟩,h⟩
def WO1(X:Ctx)(ops:Array Oper)(o:Oper)(F:Fr)(K:AV->Fr->Prop)(P:AV->Fr->Prop):Prop:=
 ∃s,(∃n,∀m,n <=m->stepOp X (callF X (ev X m)) (roundV X (ev X m)) ops o F=s)/\match s with| .val v F'=>K v F' | .pan v F'=>P v F' | .fail=>False
theorem Y2(h:WO1 X ops o F (fun _ F'=>WO X ops l F' Q) (fun v F'=>Q (.pan v F'))):WO X ops (o::l) F Q:=by
 obtain⟨s,⟨n,hn⟩,h⟩:=h;cases s with
 |val v F'=>
  obtain⟨r,⟨n2,hn2⟩,hq⟩:=h;exact⟨r,⟨max n n2,fun m hm=>by simp only[runOps,hn m (by omega),hn2 m (by omega)]⟩,hq⟩
 |pan v F'=>exact⟨_,⟨n,fun m hm=>by simp only[runOps,hn m hm]⟩,h⟩
 |fail=>exact h.elim
def WD(X:Ctx)(ops:Array Oper)(l:List Nat)(F:Fr)(K:Fr->List (Nat×Trace)->Prop):Prop:=
 ∃F' ts,(∃n,∀m,n <=m->runD X (callF X (ev X m)) (roundV X (ev X m)) ops l F= .norm F' ts)/\K F' ts
theorem WD.nil{K:Fr->List (Nat×Trace)->Prop}(h:K F []):WD X ops [] F K:=⟨F,[],⟨0,fun _ _=>rfl⟩,h⟩
theorem WD.cons{K:Fr->List (Nat×Trace)->Prop}{i:Nat}{l:List Nat}(ho:ops[i]? =some o)(ha:isAlloc o=false)(h:WO1 X ops o F (fun v F'=>WD X ops l F' (fun F'' ts=>K F'' ((i,⟨F,v,F'⟩)::ts))) (fun _ _=>False)):WD X ops (i::l) F K:=by
 obtain⟨s,⟨n,hn⟩,h⟩:=h;cases s with
 |val v F'=>
  obtain⟨F'',ts,⟨n2,hn2⟩,hk⟩:=h;refine⟨F'',_,⟨max n n2,fun m hm=>?_⟩,hk⟩;simp only[runD,ho,stepD,ha,Bool.false_eq_true,if_false,hn m (by omega),hn2 m (by omega)]
 |pan v F'=>exact h.elim
 |fail=>exact h.elim
theorem WD.alloc{K:Fr->List (Nat×Trace)->Prop}{i:Nat}{l:List Nat}{v:AV}(ho:ops[i]? =some o)(ha:isAlloc o=true)(hv:rdV X F o.dst o.op=some v)(h:WD X ops l (F.put o.dst v) (fun F'' ts=>K F'' ((i,⟨F,v,F.put o.dst v⟩)::ts))):WD X ops (i::l) F K:=by
 obtain⟨F'',ts,⟨n2,hn2⟩,hk⟩:=h;refine⟨F'',_,⟨n2,fun m hm=>?_⟩,hk⟩;simp only[runD,ho,stepD,ha,if_true,hv,hn2 m hm]
theorem W.draw{id:Nat}{F0:Fr}{lc:List Nat}{hot:List (Nat×Nat)}(hok:drawOk X F.f ops=true)(hc:canon ops=lc)(hh:hotPairs X F.f ops=hot)(hp:prepAll X ops.toList F=some F0)
  (h:WD X ops lc F0 (fun F' ts=>hot.all (calmPair X F.f ops ts)=true/\Q (.norm F'))):W X (.region id ops true) F Q:=by
 obtain⟨F',ts,⟨n,hn⟩,h1,h2⟩:=h;refine⟨_,Ev.step ⟨n,fun m hm=>?_⟩,h2⟩;simp only[evStep,if_true,runDrawP_ok hok,runDraw_eq,hok,Bool.not_true,Bool.false_eq_true,if_false,hp,hc,hh,hn m hm,h1]
def WQ(X:Ctx)(ops:Array Oper)(l:List Nat)(F:Fr)(K:Fr->Prop):Prop:=
 ∃F' ts,(∃n,∀m,n <=m->runD X (callF X (ev X m)) (roundV X (ev X m)) ops l F= .norm F' ts)/\(∀p∈ts,p.2.before.lm=F.lm/\p.2.before.hp=F.hp/\p.2.after.lm=F.lm/\p.2.after.hp=F.hp)/\K F'
theorem Z6{K:Fr->Prop}(h:K F):WQ X ops [] F K:=⟨F,[],⟨0,fun _ _=>rfl⟩,by simp,h⟩
theorem Z5{K:Fr->Prop}{i:Nat}{l:List Nat}(ho:ops[i]? =some o)(ha:isAlloc o=false)(h:WO1 X ops o F (fun _ F'=>(F'.lm=F.lm/\F'.hp=F.hp)/\WQ X ops l F' K) (fun _ _=>False)):WQ X ops (i::l) F K:=by
 obtain⟨s,⟨n,hn⟩,h⟩:=h;cases s with
 | val v F' =>
  obtain⟨⟨e1,e2⟩,F'',ts,⟨n2,hn2⟩,hts,hk⟩:=h;refine⟨F'',(i,⟨F,v,F'⟩)::ts,⟨max n n2,fun m hm=>?_⟩,fun p hp=>?_,hk⟩
  ·simp only[runD,ho,stepD,ha,Bool.false_eq_true,if_false,hn m (by omega),hn2 m (by omega)]
  ·rcases List.mem_cons.1 hp with rfl|hp
   ·exact⟨rfl,rfl,e1,e2⟩
   ·have:=hts p hp
    rw[e1,e2]at this;exact this
 |pan v F'=>exact h.elim
 |fail=>exact h.elim
theorem Z7{K:Fr->Prop}{i:Nat}{l:List Nat}{v:AV}(ho:ops[i]? =some o)(ha:isAlloc o=true)(hv:rdV X F o.dst o.op=some v)(h:WQ X ops l (F.put o.dst v) K):WQ X ops (i::l) F K:=by
 obtain⟨F'',ts,⟨n2,hn2⟩,hts,hk⟩:=h;have e:(F.put o.dst v).lm=F.lm/\(F.put o.dst v).hp=F.hp:=by cases o.dst<;>exact⟨rfl,rfl⟩
 refine⟨F'',(i,⟨F,v,F.put o.dst v⟩)::ts,⟨n2,fun m hm=>?_⟩,fun p hp=>?_,hk⟩
 ·simp only[runD,ho,stepD,ha,if_true,hv,hn2 m hm]
 ·rcases List.mem_cons.1 hp with rfl|hp
  ·exact⟨rfl,rfl,e.1,e.2⟩
  ·have:=hts p hp
   rw[e.1,e.2]at this;exact this
def WT(X:Ctx)(ops:Array Oper)(l:List Nat)(F:Fr)(K:Fr->Prop):Prop:=WD X ops l F fun F' _=>K F'
theorem Z9{K:Fr->Prop}(h:K F):WT X ops [] F K:=WD.nil h
theorem Z8{K:Fr->Prop}{i:Nat}{l:List Nat}(ho:ops[i]? =some o)(ha:isAlloc o=false)(h:WO1 X ops o F (fun v F'=>WT X ops l F' K) (fun _ _=>False)):WT X ops (i::l) F K:=WD.cons ho ha h
end
mutual
theorem AV.same_refl:∀(a:AV),AV.same a a=true
 | .junk=>rfl| .bool b=>by simp[AV.same]| .int k n=>by simp[AV.same]| .str s=>by simp[AV.same]| .nilptr=>rfl| .ptr a b=>by simp[AV.same]| .eptr a b c d=>by simp[AV.same]| .lptr a b c=>by simp[AV.same]
 | .vptr l=>by simp[AV.same,AV.sameL_refl l]| .nilslice=>rfl| .vslice l=>by simp[AV.same,AV.sameL_refl l]| .vempty=>rfl| .row a b c=>by simp[AV.same]| .nilmap=>rfl| .map a=>by simp[AV.same]
 | .func f a b=>by simp[AV.same,AV.sameL_refl a,AV.sameL_refl b]| .yield a=>by simp[AV.same]| .nilfunc=>rfl| .niliface=>rfl| .iface t a=>by simp[AV.same,AV.same_refl a]| .agg l=>by simp[AV.same,AV.sameL_refl l]| .tuple l=>by simp[AV.same,AV.sameL_refl l]
theorem AV.sameL_refl:∀(l:List AV),AV.sameL l l=true
 | []=>rfl
 |a::l=>by simp[AV.sameL,AV.same_refl a,AV.sameL_refl l]
end
section
variable{X:Ctx}{ops:Array Oper}{o:Oper}{F:Fr}{Q:Out->Prop}
theorem runD_append(cl:FuncId->List AV->Heap->COut)(rd:Nat->List AV->Heap->COut):∀(l1 l2:List Nat) (F F1 F2:Fr) (t1 t2:List (Nat×Trace)),runD X cl rd ops l1 F= .norm F1 t1->runD X cl rd ops l2 F1= .norm F2 t2->runD X cl rd ops (l1++l2) F= .norm F2 (t1++t2):=by
 intro l1;induction l1 with
 |nil=>intro l2 F F1 F2 t1 t2 h1 h2;simp only[runD]at h1;cases h1;exact h2
 | cons i l1 ih =>
  intro l2 F F1 F2 t1 t2 h1 h2;simp only[List.cons_append,runD]at h1 ⊢;split at h1
  ·cases h1
  ·split at h1
   ·split at h1
    ·rename_i F'' ts h3
     cases h1;rw[ih l2 _ _ _ _ _ h3 h2];rfl
    ·cases h1
    ·cases h1
   ·cases h1
   ·cases h1
theorem runD_idx(cl:FuncId->List AV->Heap->COut)(rd:Nat->List AV->Heap->COut):∀(l:List Nat) (F F':Fr) (ts:List (Nat×Trace)),runD X cl rd ops l F= .norm F' ts->(∀p∈ts,∃o,ops[p.1]? =some o/\p.1∈l/\stepD X cl rd ops o p.2.before= .val p.2.val p.2.after/\p.2.before.f=F.f):=by
 intro l;induction l with
 |nil=>intro F F' ts h;simp only[runD]at h;cases h;simp
 | cons i l ih =>
  intro F F' ts h p hp;simp only[runD]at h;split at h
  ·cases h
  ·rename_i o ho
   split at h
   ·rename_i v F1 hs
    split at h
    ·rename_i F'' ts' h3
     cases h;rcases List.mem_cons.1 hp with rfl|hp
     ·exact⟨o,ho,by simp,hs,rfl⟩
     ·obtain⟨o',h1,h2,h4,h5⟩:=ih _ _ _ h3 p hp
      exact⟨o',h1,by simp[h2],h4,h5.trans (stepD_shape hs).2.2⟩
    ·cases h
    ·cases h
   ·cases h
   ·cases h
theorem traceOf_mem:∀{ts:List (Nat×Trace)} {i:Nat} {t:Trace},traceOf ts i=some t->(i,t)∈ts:=by
 intro ts;induction ts with
 |nil=>intro i t h;cases h
 |cons p ts ih=>
  intro i t h;obtain⟨j,u⟩:=p;simp only[traceOf]at h;split at h
  ·rename_i e;cases h;subst e;simp
  ·exact List.mem_cons_of_mem _ (ih h)
theorem traceOf_app:∀{t1 t2:List (Nat×Trace)} {i:Nat} {t:Trace},traceOf (t1++t2) i=some t->(∀p∈t2,p.1≠i)->traceOf t1 i=some t:=by
 intro t1;induction t1 with
 |nil=>
  intro t2 i t h hn;exact absurd rfl (hn _ (traceOf_mem h))
 |cons p t1 ih=>
  intro t2 i t h hn;obtain⟨j,u⟩:=p;simp only[List.cons_append,traceOf]at h ⊢;split at h
  ·rename_i e;rw[if_pos e];exact h
  ·rename_i e;rw[if_neg e];exact ih h hn
theorem W.drawQ{id:Nat}{F0:Fr}{l1 l2:List Nat}(hok:drawOk X F.f ops=true)(hc:canon ops=l1++l2)(hh:(hotPairs X F.f ops).all (fun p=>l1.contains p.1&&l1.contains p.2)=true)(hp:prepAll X ops.toList F=some F0)
  (h:WQ X ops l1 F0 (fun F1=>WT X ops l2 F1 fun F'=>Q (.norm F'))):W X (.region id ops true) F Q:=by
 obtain⟨F1,t1,⟨n1,hn1⟩,hts,F',t2,⟨n2,hn2⟩,h2⟩:=h
 have hfl : F0.f = F.f := by
  have:∀(l:List Oper) (F F0:Fr),prepAll X l F=some F0->F0.f=F.f:=by
   intro l;induction l with
   |nil=>intro F F0 h;simp only[prepAll,Option.some.injEq]at h;rw[h]
   | cons o l ih =>
    intro F F0 h;simp only[prepAll]at h;split at h
    ·split at h
     ·split at h
      ·cases h
      ·have:=ih _ _ h;exact this
     ·cases h
    ·cases h
    ·exact ih _ _ h
  exact this _ _ _ hp
 refine⟨_,Ev.step ⟨max n1 n2,fun m hm=>?_⟩,h2⟩;have hrun:=runD_append _ _ l1 l2 F0 F1 F' t1 t2 (hn1 m (by omega)) (hn2 m (by omega))
 have hcalm : (hotPairs X F.f ops).all (calmPair X F.f ops (t1 ++ t2)) = true := by
  refine List.all_eq_true.2 fun p hpm=>?_;have hb:=List.all_eq_true.1 hh p hpm;simp only[Bool.and_eq_true,List.contains_iff_mem]at hb;have hnd:(l1++l2).Nodup:=by rw[<-hc];exact canon_nodup
  have hd2:∀i∈l1,∀q∈t2,q.1≠i:=fun i hi q hq e=>by
   obtain⟨_,_,hq2,_⟩:=runD_idx _ _ _ _ _ _ (hn2 m (by omega)) q hq;rw[List.nodup_append]at hnd;exact hnd.2.2 i hi q.1 hq2 e.symm
  unfold calmPair;split
  ·rename_i x y t u hx hy ht hu
   have ht:=traceOf_app ht (hd2 _ hb.1);have hu:=traceOf_app hu (hd2 _ hb.2);have mt:=hts _ (traceOf_mem ht);have mu:=hts _ (traceOf_mem hu);have key:∀(z:Oper) (s:Trace) (i:Nat),ops[i]? =some z->traceOf t1 i=some s->isEffD X F.f z=false->∀M:Fr,M.lm=F0.lm->M.hp=F0.hp->rereads X ops z s M=true:=fun z s i hz hs he M e1 e2=>by
    have ms:=hts _ (traceOf_mem hs);obtain⟨z',hz',_,hst,hf⟩:=runD_idx _ _ _ _ _ _ (hn1 m (by omega)) _ (traceOf_mem hs);simp only at hz' hst;rw[hz]at hz';cases hz';unfold rereads;split
    ·rename_i hw
     have e3:({ s.before with lm:=M.lm,hp:=M.hp }:Fr)=s.before:=by
      rw[e1,e2,<-ms.1,<-ms.2.1]
     rw[e3];unfold stepD at hst;split at hst
     ·rename_i hal
      split at hst
      ·rename_i v hv;(have e4:=(OOut.val.inj hst).1;first|(rw[e4];exact AV.same_refl _)|(rw[hv];simp only;rw[e4];exact AV.same_refl _))
      ·cases hst
     ·rename_i hal
      have hal:isAlloc z=false:=by simpa using hal
      have hea:isEffAt X s.before.f z=false:=by
       unfold isEffD at he;rw[hal]at he;rw[hf,hfl];simpa using he
      unfold stepOp at hst;rw[if_pos hw,hea]at hst;simp only[Bool.false_eq_true,if_false]at hst;split at hst
      ·cases hst
      ·split at hst
       ·rename_i v hv;(have e4:=(OOut.val.inj hst).1;first|(rw[e4];exact AV.same_refl _)|(rw[hv];simp only;rw[e4];exact AV.same_refl _))
       ·cases hst
    ·rfl
   split
   ·rename_i hex
    have hey:isEffD X F.f y=false:=by
     cases hey:isEffD X F.f y with
     |false=>rfl
     |true=>
      have hpm':=(List.mem_filter.1 hpm).1;unfold drawOk at hok;simp only[Bool.and_eq_true]at hok;have:=List.all_eq_true.1 hok.2 p hpm';unfold pairOk at this;rw[hx,hy]at this;simp[hex,hey]at this
    exact key y u _ hy hu hey _ mt.1 mt.2.1
   ·rename_i hex
    exact key x t _ hx ht (by simpa using hex) _ mu.2.2.1 mu.2.2.2
  ·rfl
 simp only[evStep,if_true,runDrawP_ok hok,runDraw_eq,hok,Bool.not_true,Bool.false_eq_true,if_false,hp,hc,hrun,hcalm]
end
end Go.AM
namespace Go.AM
open Go
section
variable{f:FuncId}{rnd:Bool}{e:Mp AV}{lm:Mp (Nat×List AV)}{hp:Heap}{df:List (AV×List AV)}{up:Option (AV×Bool)}
theorem opd_tmp(t:Tmp):(Fr.mk f rnd e lm hp df up).opd (.tmp t)=some (match e.get t with|some v=>v|none=>undefA):=rfl
theorem tmp_mk(t:Tmp):(Fr.mk f rnd e lm hp df up).tmp t=(match e.get t with|some v=>v|none=>undefA):=rfl
theorem opd_const(v:Value):(Fr.mk f rnd e lm hp df up).opd (.const v)=ofValue v:=rfl
theorem opd_func(g:FuncId):(Fr.mk f rnd e lm hp df up).opd (.func g)=some (.func (.func g) [] []):=rfl
def outV(v:Option AV):Option AV:=match v with|some v=>if outer v then some v else none|none=>none
theorem opv_def(x:Operand):(Fr.mk f rnd e lm hp df up).opv x=outV ((Fr.mk f rnd e lm hp df up).opd x):=rfl
theorem outV_bool(b:Bool):outV (some (.bool b))=some (.bool b):=rfl
theorem outV_undef:outV (some undefA)=some undefA:=rfl
theorem outV_int(k:IntKind)(n:Int):outV (some (.int k n))=some (.int k n):=rfl
theorem outV_str(s:List UInt8):outV (some (.str s))=some (.str s):=rfl
theorem outV_nilslice:outV (some .nilslice)=some .nilslice:=rfl
theorem outV_vslice(l:List AV):outV (some (.vslice l))=some (.vslice l):=rfl
theorem outV_vempty:outV (some .vempty)=some .vempty:=rfl
theorem outV_row(a b c:Nat):outV (some (.row a b c))=some (.row a b c):=rfl
theorem outV_agg(l:List AV):outV (some (.agg l))=some (.agg l):=rfl
theorem outV_tuple(l:List AV):outV (some (.tuple l))=some (.tuple l):=rfl
theorem outV_ptr(a b:Nat):outV (some (.ptr a b))=some (.ptr a b):=rfl
theorem outV_func(fn:Fn)(a b:List AV):outV (some (.func fn a b))=some (.func fn a b):=rfl
theorem outV_iface(t:TypeId)(v:AV):outV (some (.iface t v))=some (.iface t v):=rfl
theorem outV_niliface:outV (some .niliface)=some .niliface:=rfl
theorem outV_nilptr:outV (some .nilptr)=some .nilptr:=rfl
theorem outV_nilfunc:outV (some .nilfunc)=some .nilfunc:=rfl
theorem outV_map(a:Nat):outV (some (.map a))=some (.map a):=rfl
theorem outV_nilmap:outV (some .nilmap)=some .nilmap:=rfl
theorem outV_yield(a:Nat):outV (some (.yield a))=some (.yield a):=rfl
theorem pM(d:Tmp)(v:AV):(Fr.mk f rnd e lm hp df up).put (some d) v=Fr.mk f rnd (e.set d v) lm hp df up:=rfl
theorem pN(v:AV):(Fr.mk f rnd e lm hp df up).put none v=Fr.mk f rnd e lm hp df up:=rfl
theorem opvs_nil:(Fr.mk f rnd e lm hp df up).opvs []=some []:=rfl
theorem opvs_cons(x:Operand)(r:List Operand):(Fr.mk f rnd e lm hp df up).opvs (x::r)=(match (Fr.mk f rnd e lm hp df up).opv x,(Fr.mk f rnd e lm hp df up).opvs r with|some a,some l=>some (a::l)|_,_=>none):=rfl
end
section
variable{X:Ctx}{ops:Array Oper}{K P:AV->Fr->Prop}{F:Fr}{d:Option Tmp}{op:Op}{T:TypeId}{p:String}{af:Array Edge}{j:Nat}{want b:Bool}{o:Oper}{t:Tmp}
theorem U4{v:AV}(hv:rdV X F d op=some v)(he:isEffAt X F.f ⟨d,op,T,p,af,none⟩=false)(h:K v (F.put d v)):WO1 X ops ⟨d,op,T,p,af,none⟩ F K P:=
 ⟨.val v (F.put d v),⟨0,fun m _=>by simp[stepOp,guardOk,wantedA,he,hv]⟩,h⟩
theorem U5{v:AV}{F':Fr}(he:isEffAt X F.f ⟨d,op,T,p,af,none⟩=true)(hs:∀cl rd,efV X cl rd F d op= .val v F')(h:K v (F'.put d v)):WO1 X ops ⟨d,op,T,p,af,none⟩ F K P:=
 ⟨.val v (F'.put d v),⟨0,fun m _=>by simp[stepOp,guardOk,wantedA,he,hs]⟩,h⟩
theorem WO1.panic{v:AV}(he:isEffAt X F.f ⟨d,op,T,p,af,none⟩=true)(hs:∀cl rd,efV X cl rd F d op= .pan v F)(h:P v F):WO1 X ops ⟨d,op,T,p,af,none⟩ F K P:=
 ⟨.pan v F,⟨0,fun m _=>by simp[stepOp,guardOk,wantedA,he,hs]⟩,h⟩
theorem guard_mk(ho:ops[j]? =some o)(ht:o.dst=some t)(hb:F.e.get t=some (.bool b)):guardOk ops F ⟨d,op,T,p,af,some (j,want)⟩=true/\wantedA ops F ⟨d,op,T,p,af,some (j,want)⟩=(b==want):=by
 refine⟨by simp[guardOk,ho,ht,hb],?_⟩;simp[wantedA,yieldedA,ho,ht,hb]
theorem WO1.gno(ho:ops[j]? =some o)(ht:o.dst=some t)(hb:F.e.get t=some (.bool b))(hne:(b==want)=false)(h:K undefA (F.put d undefA)):WO1 X ops ⟨d,op,T,p,af,some (j,want)⟩ F K P:=by
 obtain⟨hg,hw⟩:=guard_mk (d:=d) (op:=op) (T:=T) (p:=p) (af:=af) (want:=want) ho ht hb;rw[hne]at hw;exact⟨.val undefA (F.put d undefA),⟨0,fun m _=>by simp[stepOp,hg,hw]⟩,h⟩
theorem WO1.gyes(ho:ops[j]? =some o)(ht:o.dst=some t)(hb:F.e.get t=some (.bool b))(heq:(b==want)=true)(h:WO1 X ops ⟨d,op,T,p,af,none⟩ F K P):WO1 X ops ⟨d,op,T,p,af,some (j,want)⟩ F K P:=by
 obtain⟨hg,hw⟩:=guard_mk (d:=d) (op:=op) (T:=T) (p:=p) (af:=af) (want:=want) ho ht hb;rw[heq]at hw;obtain⟨s,⟨n,hn⟩,hq⟩:=h;refine⟨s,⟨n,fun m hm=>?_⟩,hq⟩;have e:stepOp X (callF X (ev X m)) (roundV X (ev X m)) ops ⟨d,op,T,p,af,some (j,want)⟩ F=stepOp X (callF X (ev X m)) (roundV X (ev X m)) ops ⟨d,op,T,p,af,none⟩ F:=by
  simp only[stepOp,hg,hw];rfl
 rw[e];exact hn m hm
theorem U3(ho:ops[j]? =some o)(ht:o.dst=some t)(hb:F.e.get t=some (.bool b))(h12:(b=want->WO1 X ops ⟨d,op,T,p,af,none⟩ F K P)/\(b=(!want)->K undefA (F.put d undefA))):WO1 X ops ⟨d,op,T,p,af,some (j,want)⟩ F K P:=by
 cases h:b==want with
 |true=>exact WO1.gyes ho ht hb h (h12.1 (by simpa using h))
 |false=>exact WO1.gno ho ht hb h (h12.2 (by cases b<;>cases want<;>simp_all))
def retK(F:Fr)(d:Option Tmp)(K P:AV->Fr->Prop):COut->Prop
 | .ret v h' _=>K v (({ F with hp:=h' }:Fr).put d v)
 | .pan v h' _=>P v { F with hp:=h' }
 | .fail=>False
theorem rR{v:AV}{h':Heap}{up:Option (AV×Bool)}:retK F d K P (.ret v h' up)↔K v (({ F with hp:=h' }:Fr).put d v):=Iff.rfl
theorem rP{v:AV}{h':Heap}{up:Option (AV×Bool)}:retK F d K P (.pan v h' up)↔P v { F with hp:=h' }:=Iff.rfl
theorem WO1.out{o:Oper}{r:COut}(hs:∃n,∀m,n <=m->stepOp X (callF X (ev X m)) (roundV X (ev X m)) ops o F=(match outOf F r with| .val v F'=>.val v (F'.put o.dst v)|r=>r))(h:retK F o.dst K P r):WO1 X ops o F K P:=by
 cases r with
 |ret v h' up=>exact⟨_,hs,h⟩
 |pan v h' up=>exact⟨_,hs,h⟩
 |fail=>exact h.elim
theorem U6{fo:Operand}{args:Array Operand}{at_:Array TypeId}{g:FuncId}{first capt vs:List AV}{r:COut}(hf:F.opv fo=some (.func (.func g) first capt))(ha:F.opvs args.toList=some vs)(hc:Cl X g ((first++vs)++capt) F.hp r)(h:retK F d K P r) :
  WO1 X ops ⟨d,.call ⟨.value fo,args,at_⟩,T,p,af,none⟩ F K P:=by
 obtain⟨n,hn⟩:=hc;refine WO1.out ⟨n,fun m hm=>?_⟩ h;have he:isEffAt X F.f ⟨d,.call ⟨.value fo,args,at_⟩,T,p,af,none⟩=true:=rfl;simp only[stepOp,guardOk,wantedA,he,efV,Fr.callOp,Fr.callE,hf,ha,callV,hn m hm];rfl
theorem WO1.round{fo:Operand}{args:Array Operand}{at_:Array TypeId}{id:Nat}{vs:List AV}{r:COut}(hf:F.opv fo=some (.yield id))(ha:F.opvs args.toList=some vs)(hc:∃n,∀m,n <=m->roundV X (ev X m) id vs F.hp=r)(h:retK F d K P r) :
  WO1 X ops ⟨d,.call ⟨.value fo,args,at_⟩,T,p,af,none⟩ F K P:=by
 obtain⟨n,hn⟩:=hc;refine WO1.out ⟨n,fun m hm=>?_⟩ h;have he:isEffAt X F.f ⟨d,.call ⟨.value fo,args,at_⟩,T,p,af,none⟩=true:=rfl;simp only[stepOp,guardOk,wantedA,he,efV,Fr.callOp,Fr.callE,hf,ha,callV,hn m hm];rfl
theorem WO1.invoke{x:Operand}{name:String}{args:Array Operand}{at_:Array TypeId}{t:TypeId}{u:AV}{g:FuncId}{vs:List AV}{r:COut}(hf:F.opv x=some (.iface t u))(ha:F.opvs args.toList=some vs)(hm:methodOf X.P t name=some g)(hc:Cl X g (u::vs) F.hp r)(h:retK F d K P r) :
  WO1 X ops ⟨d,.call ⟨.invoke x name,args,at_⟩,T,p,af,none⟩ F K P:=by
 obtain⟨n,hn⟩:=hc;refine WO1.out ⟨n,fun m hm'=>?_⟩ h;have he:isEffAt X F.f ⟨d,.call ⟨.invoke x name,args,at_⟩,T,p,af,none⟩=true:=rfl;simp only[stepOp,guardOk,wantedA,he,efV,Fr.callOp,Fr.invokeE,hf,ha,hm,hn m hm'];rfl
end
section
variable{X:Ctx}{f:FuncId}{args:List AV}{h:Heap}
theorem Cl.intr{g:List AV->Heap->Option (AV×Heap)}{v:AV}{h':Heap}(hg:X.intr f=some g)(e:g args h=some (v,h')):Cl X f args h (.ret v h' none):=
 ⟨0,fun m _=>by simp only[callF,atOnceF,hg,e]⟩
end
end Go.AM
namespace Go.AM
open Go
theorem get_set_same{α:Type}(t:Mp α)(k:Nat)(x:α):(t.set k x).get k=some x:=by simp
theorem get_set_lit{α:Type}(t:Mp α)(k j:Nat)(x:α)(h:(k==j)=false):(t.set k x).get j=t.get j:=by
 have:¬k=j:=by simpa using h
 simp[this]
section
variable{f:FuncId}{rnd:Bool}{e:Mp AV}{lm:Mp (Nat×List AV)}{hp:Heap}{df:List (AV×List AV)}{up:Option (AV×Bool)}
theorem mem_lptr(s g off:Nat):(Fr.mk f rnd e lm hp df up).mem (.lptr s g off)=(match lm.get s with|some (g',cs)=>if g=g' then some (cs,off)else none|none=>none):=rfl
theorem mem_ptr(id off:Nat):(Fr.mk f rnd e lm hp df up).mem (.ptr id off)=(match hp.get id with|some (.var cs)=>some (cs,off)|_=>none):=rfl
theorem mem_vptr(cs:List AV):(Fr.mk f rnd e lm hp df up).mem (.vptr cs)=some (cs,0):=rfl
theorem mem_eptr(id sz i j:Nat):(Fr.mk f rnd e lm hp df up).mem (.eptr id sz i j)=(match hp.get id with|some (.rw sz' el)=>if sz=sz' then (match el[i]? with|some v=>some (v.cells,j)|none=>none)else none|_=>none):=rfl
theorem hp_get(n:Nat)(m:Mp Blk)(id:Nat):(Heap.mk n m).get id=m.get id:=rfl
theorem hp_put(n:Nat)(m:Mp Blk)(id:Nat)(b:Blk):(Heap.mk n m).put id b=⟨n,m.set id b⟩:=rfl
theorem hp_new(n:Nat)(m:Mp Blk)(b:Blk):(Heap.mk n m).new b=⟨n+1,m.set n b⟩:=rfl
theorem hp_del(n:Nat)(m:Mp Blk)(id:Nat):(Heap.mk n m).del id=⟨n,m.del id⟩:=rfl
theorem ofV_bool(b:Bool):ofValue (.bool b)=some (.bool b):=rfl
theorem ofV_int(k:IntKind)(n:Int):ofValue (.int k n)=some (.int k n):=rfl
theorem ofV_nilslice:ofValue (.slice none 0 0)=some .nilslice:=rfl
theorem ofV_nilptr:ofValue (.pointer none)=some .nilptr:=rfl
theorem ofV_nilmap:ofValue (.map none)=some .nilmap:=rfl
theorem ofV_nilfunc:ofValue .nilFunc=some .nilfunc:=rfl
theorem ofV_niliface:ofValue .nilIface=some .niliface:=rfl
theorem ofV_str(s:ByteArray):ofValue (.string s)=some (.str s.data.toList):=rfl
theorem ofV_agg(cs:Array Value):ofValue (.agg cs)=(ofCells ofScalar cs.toList).map .agg:=rfl
theorem readT_def(P:Program)(t:TypeId)(cs:List AV)(off:Nat):readT P t cs off=(match lay P t with|some (ag,n)=>readAt ag n cs off|none=>none):=rfl
theorem readAt_one(n:Nat)(cs:List AV)(off:Nat):readAt false n cs off=cs[off]?:=rfl
theorem readAt_agg(n:Nat)(cs:List AV)(off:Nat):readAt true n cs off=if off+n <=cs.length then some (.agg ((cs.drop off).take n))else none:=rfl
theorem intOp_add(k:IntKind)(a b:Int):intOp .add k a b=some (.int k (k.wrap (a+b))):=rfl
theorem intOp_sub(k:IntKind)(a b:Int):intOp .sub k a b=some (.int k (k.wrap (a - b))):=rfl
theorem intOp_rem(k:IntKind)(a b:Int)(h:(b==0)=false):intOp .rem k a b=some (.int k (a.tmod b)):=by
 have:¬b=0:=by simpa using h
 simp[intOp,this]
theorem intOp_quo(k:IntKind)(a b:Int)(h:(b==0)=false):intOp .quo k a b=some (.int k (k.wrap (a.tdiv b))):=by
 have:¬b=0:=by simpa using h
 simp[intOp,this]
theorem intOp_mul(k:IntKind)(a b:Int):intOp .mul k a b=some (.int k (k.wrap (a * b))):=rfl
theorem intOp_eql(k:IntKind)(a b:Int):intOp .eql k a b=some (.bool (a==b)):=rfl
theorem intOp_neq(k:IntKind)(a b:Int):intOp .neq k a b=some (.bool (a !=b)):=rfl
theorem intOp_lss(k:IntKind)(a b:Int):intOp .lss k a b=some (.bool (decide (a<b))):=rfl
theorem intOp_leq(k:IntKind)(a b:Int):intOp .leq k a b=some (.bool (decide (a <=b))):=rfl
theorem intOp_gtr(k:IntKind)(a b:Int):intOp .gtr k a b=some (.bool (decide (a>b))):=rfl
theorem intOp_geq(k:IntKind)(a b:Int):intOp .geq k a b=some (.bool (decide (a >=b))):=rfl
theorem binV_int(P:Program)(op:BinOp)(t:TypeId)(c:Bool)(k:IntKind)(a b:Int):binV P op t c (.int k a) (.int k b)=intOp op k a b:=by simp[binV]
theorem binV_bool(P:Program)(op:BinOp)(t:TypeId)(c:Bool)(a b:Bool):binV P op t c (.bool a) (.bool b)=eqOp P op t c (.bool a) (.bool b):=rfl
theorem binV_str(P:Program)(op:BinOp)(t:TypeId)(c:Bool)(a b:List UInt8):binV P op t c (.str a) (.str b)=strOp op a b:=rfl
end
theorem frz1_bool(h:Heap)(b:Bool):frz1 h (.bool b)=some ((.bool b),h):=rfl
theorem frz2_bool(h:Heap)(b:Bool):frz2 h (.bool b)=some ((.bool b),h):=rfl
theorem freeze_bool(h:Heap)(b:Bool):freeze h (.bool b)=some ((.bool b),h):=rfl
theorem frz1_int(h:Heap)(k:IntKind)(n:Int):frz1 h (.int k n)=some ((.int k n),h):=rfl
theorem frz2_int(h:Heap)(k:IntKind)(n:Int):frz2 h (.int k n)=some ((.int k n),h):=rfl
theorem freeze_int(h:Heap)(k:IntKind)(n:Int):freeze h (.int k n)=some ((.int k n),h):=rfl
theorem frz1_str(h:Heap)(s:List UInt8):frz1 h (.str s)=some ((.str s),h):=rfl
theorem frz2_str(h:Heap)(s:List UInt8):frz2 h (.str s)=some ((.str s),h):=rfl
theorem freeze_str(h:Heap)(s:List UInt8):freeze h (.str s)=some ((.str s),h):=rfl
theorem frz1_nilptr(h:Heap):frz1 h .nilptr=some (.nilptr,h):=rfl
theorem frz2_nilptr(h:Heap):frz2 h .nilptr=some (.nilptr,h):=rfl
theorem freeze_nilptr(h:Heap):freeze h .nilptr=some (.nilptr,h):=rfl
theorem frz1_nilslice(h:Heap):frz1 h .nilslice=some (.nilslice,h):=rfl
theorem frz2_nilslice(h:Heap):frz2 h .nilslice=some (.nilslice,h):=rfl
theorem freeze_nilslice(h:Heap):freeze h .nilslice=some (.nilslice,h):=rfl
theorem frz1_vslice(h:Heap)(l:List AV):frz1 h (.vslice l)=some ((.vslice l),h):=rfl
theorem frz2_vslice(h:Heap)(l:List AV):frz2 h (.vslice l)=some ((.vslice l),h):=rfl
theorem freeze_vslice(h:Heap)(l:List AV):freeze h (.vslice l)=some ((.vslice l),h):=rfl
theorem frz1_vempty(h:Heap):frz1 h .vempty=some (.vempty,h):=rfl
theorem frz2_vempty(h:Heap):frz2 h .vempty=some (.vempty,h):=rfl
theorem freeze_vempty(h:Heap):freeze h .vempty=some (.vempty,h):=rfl
theorem frz1_nilmap(h:Heap):frz1 h .nilmap=some (.nilmap,h):=rfl
theorem frz2_nilmap(h:Heap):frz2 h .nilmap=some (.nilmap,h):=rfl
theorem freeze_nilmap(h:Heap):freeze h .nilmap=some (.nilmap,h):=rfl
theorem frz1_map(h:Heap)(a:Nat):frz1 h (.map a)=some ((.map a),h):=rfl
theorem frz2_map(h:Heap)(a:Nat):frz2 h (.map a)=some ((.map a),h):=rfl
theorem freeze_map(h:Heap)(a:Nat):freeze h (.map a)=some ((.map a),h):=rfl
theorem frz1_func(h:Heap)(fn:Fn)(a b:List AV):frz1 h (.func fn a b)=some ((.func fn a b),h):=rfl
theorem frz2_func(h:Heap)(fn:Fn)(a b:List AV):frz2 h (.func fn a b)=some ((.func fn a b),h):=rfl
theorem freeze_func(h:Heap)(fn:Fn)(a b:List AV):freeze h (.func fn a b)=some ((.func fn a b),h):=rfl
theorem frz1_nilfunc(h:Heap):frz1 h .nilfunc=some (.nilfunc,h):=rfl
theorem frz2_nilfunc(h:Heap):frz2 h .nilfunc=some (.nilfunc,h):=rfl
theorem freeze_nilfunc(h:Heap):freeze h .nilfunc=some (.nilfunc,h):=rfl
theorem frz1_niliface(h:Heap):frz1 h .niliface=some (.niliface,h):=rfl
theorem frz2_niliface(h:Heap):frz2 h .niliface=some (.niliface,h):=rfl
theorem freeze_niliface(h:Heap):freeze h .niliface=some (.niliface,h):=rfl
theorem frz1_iface(h:Heap)(t:TypeId)(v:AV):frz1 h (.iface t v)=some ((.iface t v),h):=rfl
theorem frz2_iface(h:Heap)(t:TypeId)(v:AV):frz2 h (.iface t v)=some ((.iface t v),h):=rfl
theorem freeze_iface(h:Heap)(t:TypeId)(v:AV):freeze h (.iface t v)=some ((.iface t v),h):=rfl
theorem frz1_ptr(h:Heap)(a b:Nat):frz1 h (.ptr a b)=some ((.ptr a b),h):=rfl
theorem frz2_ptr(h:Heap)(a b:Nat):frz2 h (.ptr a b)=some ((.ptr a b),h):=rfl
theorem freeze_ptr(h:Heap)(a b:Nat):freeze h (.ptr a b)=some ((.ptr a b),h):=rfl
theorem frz2_agg(h:Heap)(cs:List AV):frz2 h (.agg cs)=(match frzCells h frz1 cs with|some (l,h')=>some (.agg l,h')|none=>none):=rfl
theorem freeze_agg(h:Heap)(cs:List AV):freeze h (.agg cs)=(match frzCells h frz1 cs with|some (l,h')=>some (.agg l,h')|none=>none):=rfl
theorem freeze_tuple(h:Heap)(vs:List AV):freeze h (.tuple vs)=(match frzCells h frz2 vs with|some (l,h')=>some (.tuple l,h')|none=>none):=rfl
theorem lenS_nilslice:lenS .nilslice=some 0:=rfl
theorem lenS_vempty:lenS .vempty=some 0:=rfl
theorem lenS_vslice(l:List AV):lenS (.vslice l)=some l.length:=rfl
theorem lenS_row(a b c:Nat):lenS (.row a b c)=some c:=rfl
attribute [go_sem] frz1_bool frz2_bool freeze_bool frz1_int frz2_int freeze_int frz1_str frz2_str freeze_str frz1_nilptr frz2_nilptr freeze_nilptr frz1_nilslice frz2_nilslice freeze_nilslice frz1_vslice frz2_vslice freeze_vslice frz1_vempty frz2_vempty freeze_vempty frz1_nilmap frz2_nilmap freeze_nilmap frz1_map frz2_map freeze_map frz1_func frz2_func freeze_func frz1_nilfunc frz2_nilfunc freeze_nilfunc frz1_niliface frz2_niliface freeze_niliface frz1_iface frz2_iface freeze_iface frz1_ptr frz2_ptr freeze_ptr frz2_agg freeze_agg freeze_tuple lenS_nilslice lenS_vempty lenS_vslice lenS_row
section
variable{f:FuncId}{rnd:Bool}{e:Mp AV}{lm:Mp (Nat×List AV)}{hp:Heap}{df:List (AV×List AV)}{up:Option (AV×Bool)}
theorem write_lptr(s g off:Nat)(vs:List AV):(Fr.mk f rnd e lm hp df up).write (.lptr s g off) vs=(match lm.get s with|some (g',cs)=>if g=g'/\off+vs.length <=cs.length then some (Fr.mk f rnd e (lm.set s (g,splice cs off vs)) hp df up)else none|none=>none):=rfl
theorem write_ptr(id off:Nat)(vs:List AV):(Fr.mk f rnd e lm hp df up).write (.ptr id off) vs=(match hp.get id with|some (.var cs)=>if off+vs.length <=cs.length then some (Fr.mk f rnd e lm (hp.put id (.var (splice cs off vs))) df up)else none|_=>none):=rfl
theorem write_eptr(id sz i j:Nat)(vs:List AV):(Fr.mk f rnd e lm hp df up).write (.eptr id sz i j) vs=(match hp.get id with
  |some (.rw sz' el)=>if sz=sz' then (match el[i]? with
   |some v=>if j+vs.length <=v.cells.length then some (Fr.mk f rnd e lm (hp.put id (.rw sz' (el.set i (asElem (isAggV v) (splice v.cells j vs))))) df up)else none
   |none=>none)else none
  |_=>none):=rfl
end
attribute [go_sem] assertV indexV convV eqOp binV_bool outV_undef tmp_mk Mp.get_nil fillV Fr.parts isTuple AV.cells splice foldV Fr.buildV builtinV lenB nextGen rdV opv_def opd_tmp opd_const opd_func outV_bool outV_int outV_str outV_nilslice outV_vslice outV_vempty outV_row outV_agg outV_tuple outV_ptr outV_func outV_iface outV_niliface outV_nilptr outV_nilfunc outV_map outV_nilmap outV_yield
 opvs_nil opvs_cons get_set_same get_set_lit mem_lptr mem_ptr mem_vptr mem_eptr hp_get hp_put hp_new hp_del ofV_bool ofV_int ofV_nilslice ofV_nilptr ofV_nilmap ofV_nilfunc ofV_niliface ofV_str ofV_agg readT_def readAt_one readAt_agg
 intOp_rem intOp_quo intOp_add intOp_sub intOp_mul intOp_eql intOp_neq intOp_lss intOp_leq intOp_gtr intOp_geq binV_int binV_str Fr.binV2 Fr.unV1 unV Fr.loadV Fr.fieldAddrV Fr.fieldV ptrAdd Fr.pickV Fr.allocV Fr.indexAddrV1 Fr.indexV1 Fr.extractV Fr.nilCheckV Fr.convV1 Fr.ifaceV Fr.funcV Fr.callRd Fr.builtinV1 Fr.sliceV1 Fr.buildV Fr.buildSliceV Fr.assertV1 Fr.lookupV1 isConst
end Go.AM
namespace Go.AM
open Go
variable[Keep]
def endR(X:Ctx)(f:FuncId)(R:COut->Prop):Out->Prop
 | .norm F| .ret F=>F.df=[]/\R (resV X f F)
 | .pan v F=>F.df=[]/\R (.pan v F.hp none)
 |_=>False
theorem eR{X:Ctx}{f:FuncId}{R:COut->Prop}{F:Fr}:endR X f R (.ret F)↔F.df=[]/\R (resV X f F):=Iff.rfl
theorem eN{X:Ctx}{f:FuncId}{R:COut->Prop}{F:Fr}:endR X f R (.norm F)↔F.df=[]/\R (resV X f F):=Iff.rfl
theorem eP{X:Ctx}{f:FuncId}{R:COut->Prop}{F:Fr}{v:AV}:endR X f R (.pan v F)↔F.df=[]/\R (.pan v F.hp none):=Iff.rfl
def isRet(v:AV):COut->Prop
 | .ret v' _ none=>v'=v
 |_=>False
theorem isRet_ret{v v':AV}{h:Heap}:isRet v (.ret v' h none)↔v'=v:=Iff.rfl
theorem isRet_fail{v:AV}:¬isRet v .fail:=id
def ClR(X:Ctx)(f:FuncId)(args:List AV)(h:Heap)(R:COut->Prop):Prop:=∃r,Cl X f args h r/\R r
theorem ClR.walk{X:Ctx}{f:FuncId}{args:List AV}{h:Heap}{fn:Func}{c:Code}{R:COut->Prop}(hi:X.intr f=none)(hf:X.P.funcs[f]? =some fn)(hb:fn.body=some c)(hok:codeOk fn.ntmps c=true)(hn:Nat.blt fn.ntmps args.length=false)
  (hR:¬R .fail) (hw:W X c { f,rnd:=false,e:=entryEnv args 0 .nil,lm:=.nil,hp:=h,df:=[],up:=none } (endR X f R)):ClR X f args h R:=by
 obtain⟨o,⟨n,hn2⟩,hq⟩:=hw;have hn':¬fn.ntmps<args.length:=fun h=>by
  rw[show Nat.blt fn.ntmps args.length=true from by simpa[Nat.blt_eq]using h]at hn;cases hn
 have key:∀r,(∀m,n <=m->callF X (ev X m) f args h=r)->R r->ClR X f args h R:=fun r h1 h2=>⟨r,⟨n,h1⟩,h2⟩;have hbody:∀m,n <=m->bodyV X (ev X m) f args h none=o:=fun m hm=>by
  unfold bodyV;rw[hf];simp only[hb];rw[if_neg (by rintro(h' |h');exact hn' h';rw[hok]at h';cases h')];exact hn2 m hm
 cases o with
 |norm F=>
  obtain⟨h1,h2⟩:=hq;refine key _ (fun m hm=>?_) h2;have:({ F with hp:=F.hp,df:=[] }:Fr)=F:=by cases F;simp only at h1;subst h1;rfl
  unfold callF atOnceF;rw[hi];simp only[hbody m hm,finV,h1,deferV];rw[this]
 |ret F=>
  obtain⟨h1,h2⟩:=hq;refine key _ (fun m hm=>?_) h2;have:({ F with hp:=F.hp,df:=[] }:Fr)=F:=by cases F;simp only at h1;subst h1;rfl
  unfold callF atOnceF;rw[hi];simp only[hbody m hm,finV,h1,deferV];rw[this]
 |pan v F=>
  obtain⟨h1,h2⟩:=hq;refine key _ (fun m hm=>?_) h2;unfold callF atOnceF;rw[hi];simp only[hbody m hm,finV,h1,deferV]
 |exit i F=>exact hq.elim
 |fail=>exact hq.elim
theorem pure_fn{X:Ctx}(s:Sound X){f:FuncId}{spec:List AV->Option AV}(hp:∀args v,spec args=some v->v.pur=true)(hr:∀args v,spec args=some v->ClR X f args emptyHp (isRet v)):IntrFn X.P f (pureFn spec):=
 pure_intr s hp fun args v h=>by
  obtain⟨r,h1,h2⟩:=hr args v h;unfold isRet at h2;split at h2
  ·subst h2;exact⟨_,h1⟩
  ·exact h2.elim
theorem flat_fn{X:Ctx}(s:Sound X){f:FuncId}{spec:List AV->Option AV}(hp:∀args v,spec args=some v->v.flat=true)(hr:∀args v,spec args=some v->ClR X f args emptyHp (isRet v)):IntrFn X.P f (flatFn spec):=
 flat_intr s hp fun args v h=>by
  obtain⟨r,h1,h2⟩:=hr args v h;unfold isRet at h2;split at h2
  ·subst h2;exact⟨_,h1⟩
  ·exact h2.elim
theorem resV_def{X:Ctx}{f:FuncId}{fn:Func}{F:Fr}(hf:X.P.funcs[f]? =some fn):resV X f F=(match resultsV X.P F fn.results.toList with|none=>.fail|some l=>frzRes X f F.hp (tupleOf l)):=by
 unfold resV;rw[hf];rfl
theorem tN{K:Fr->Prop}{Q:Out->Prop}{F:Fr}:thenQ K Q (.norm F)↔K F:=Iff.rfl
theorem tX{K:Fr->Prop}{Q:Out->Prop}{F:Fr}{i:Nat}:thenQ K Q (.exit i F)↔Q (.exit i F):=Iff.rfl
theorem tR{K:Fr->Prop}{Q:Out->Prop}{F:Fr}:thenQ K Q (.ret F)↔Q (.ret F):=Iff.rfl
theorem tP{K:Fr->Prop}{Q:Out->Prop}{F:Fr}{v:AV}:thenQ K Q (.pan v F)↔Q (.pan v F):=Iff.rfl
theorem bN{id:Nat}{Q:Out->Prop}{F:Fr}:blockQ id Q (.norm F)↔Q (.norm F):=Iff.rfl
theorem bR{id:Nat}{Q:Out->Prop}{F:Fr}:blockQ id Q (.ret F)↔Q (.ret F):=Iff.rfl
theorem bP{id:Nat}{Q:Out->Prop}{F:Fr}{v:AV}:blockQ id Q (.pan v F)↔Q (.pan v F):=Iff.rfl
theorem bS{id:Nat}{Q:Out->Prop}{F:Fr}:blockQ id Q (.exit id F)↔Q (.norm F):=by simp[blockQ]
theorem bO{id i:Nat}{Q:Out->Prop}{F:Fr}(h:(i==id)=false):blockQ id Q (.exit i F)↔Q (.exit i F):=by
 have:¬i=id:=by simpa using h
 simp[blockQ,this]
structure Cd(α:Type) where
 enc:α->AV
 dec:AV->Option α
 de:∀x,dec (enc x)=some x
 ed:∀a x,dec a=some x->a=enc x
 pur:∀x,(enc x).pur=true
def intC:Cd Int where
 enc n:=.int .i64 n
 dec a:=match a with| .int .i64 n=>some n|_=>none
 de _:=rfl
 ed a x h:=by split at h<;>cases h;rfl
 pur _:=rfl
def maxL:Nat:=65536
def decL{α:Type}(c:Cd α):List AV->Option (List α)
 | []=>some []
 |a::l=>match c.dec a,decL c l with
  |some x,some r=>some (x::r)
  |_,_=>none
def slV{α:Type}(c:Cd α):AV->Option (List α)
 | .nilslice=>some []
 | .vempty=>some []
 | .vslice l=>if l.length <=maxL then decL c l else none
 |_=>none
def slN(l:List AV):AV:=match l with| []=>.nilslice|l=>.vslice l
def isSl(a:AV)(es:List AV):Prop:=((a= .nilslice\/a= .vempty)/\es=[])\/a= .vslice es
theorem decL_map{α:Type}(c:Cd α):∀(l:List α),decL c (l.map c.enc)=some l:=by
 intro l;induction l with
 |nil=>rfl
 |cons x l ih=>simp[decL,c.de,ih]
theorem decL_eq{α:Type}(c:Cd α):∀(l:List AV) (r:List α),decL c l=some r->l=r.map c.enc:=by
 intro l;induction l with
 |nil=>intro r h;simp[decL]at h;subst h;rfl
 | cons a l ih =>
  intro r h;simp only[decL]at h;split at h
  ·rename_i x r' h1 h2
   cases h;rw[c.ed _ _ h1,ih _ h2];rfl
  ·cases h
theorem slV_is{α:Type}{c:Cd α}{a:AV}{l:List α}(h:slV c a=some l):isSl a (l.map c.enc)/\l.length <=maxL:=by
 unfold slV at h;split at h
 ·cases h;exact⟨.inl ⟨.inl rfl,rfl⟩,by simp⟩
 ·cases h;exact⟨.inl ⟨.inr rfl,rfl⟩,by simp⟩
 ·split at h
  ·rename_i es hl
   have:=decL_eq c _ _ h;subst this;exact⟨.inr rfl,by simpa using hl⟩
  ·cases h
 ·cases h
theorem slV_mk{α:Type}{c:Cd α}{a:AV}{l:List α}(h:isSl a (l.map c.enc))(hl:l.length <=maxL):slV c a=some l:=by
 rcases h with⟨h1,h2⟩|rfl
 ·have:l=[]:=by simpa using h2
  subst this;rcases h1 with rfl|rfl<;>rfl
 ·simp only[slV,List.length_map]
  rw[if_pos hl,decL_map]
theorem slN_is(l:List AV):isSl (slN l) l:=by
 cases l with
 |nil=>exact .inl ⟨.inl rfl,rfl⟩
 |cons x l=>exact .inr rfl
theorem slV_slN{α:Type}{c:Cd α}{l:List α}(hl:l.length <=maxL):slV c (slN (l.map c.enc))=some l:=slV_mk (slN_is _) hl
section
variable{a:AV}{es:List AV}(h:isSl a es)
include h
theorem isSl.len:lenS a=some es.length:=by rcases h with⟨rfl|rfl,rfl⟩|rfl<;>rfl
theorem isSl.out:outV (some a)=some a:=by rcases h with⟨rfl|rfl,rfl⟩|rfl<;>rfl
theorem isSl.frz1(hp:Heap):frz1 hp a=some (a,hp):=by rcases h with⟨rfl|rfl,rfl⟩|rfl<;>rfl
theorem isSl.frz2(hp:Heap):frz2 hp a=some (a,hp):=by rcases h with⟨rfl|rfl,rfl⟩|rfl<;>rfl
theorem isSl.freeze(hp:Heap):freeze hp a=some (a,hp):=by rcases h with⟨rfl|rfl,rfl⟩|rfl<;>rfl
theorem isSl.elems(hp:Heap):hp.elems a=some es:=by rcases h with⟨rfl|rfl,rfl⟩|rfl<;>rfl
theorem isSl.cells:a.cells=[a]:=by rcases h with⟨rfl|rfl,rfl⟩|rfl<;>rfl
theorem isSl.tup:isTuple a=false:=by rcases h with⟨rfl|rfl,rfl⟩|rfl<;>rfl
theorem isSl.pur(hp:∀x∈es,x.pur=true):a.pur=true:=by
 rcases h with⟨rfl|rfl,rfl⟩|rfl
 ·rfl
 ·rfl
 ·exact purL_mem.2 hp
theorem isSl.idx{P:Program}{hp:Heap}{t e:TypeId}{ag:Bool}{m k:Nat}{x:AV}(hu:P.underlying t=some (.slice e))(hl:lay P e=some (ag,m))(hx:es[k]? =some x)(hm:x.cells.length=m):indexAddrV P hp t a (.int .i64 k)=some (.vptr x.cells):=by
 have hk:k<es.length:=by
  rcases Nat.lt_or_ge k es.length with h' |h'
  ·exact h'
  ·rw[List.getElem?_eq_none h']at hx;cases hx
 rcases h with⟨_,rfl⟩|rfl
 ·simp at hx
 ·have:idxV (.int .i64 k) es.length=some k:=by simp[idxV,hk]
  simp only[indexAddrV,hu,hl,this,hx,hm,if_true]
end
theorem enc_pur{α:Type}(c:Cd α)(l:List α):∀x∈l.map c.enc,x.pur=true:=by
 intro x hx;obtain⟨y,_,rfl⟩:=List.mem_map.1 hx;exact c.pur y
def Blt(h:Heap)(v:AV)(sz:Nat)(l:List AV):Prop:=(v= .nilslice/\l=[])\/∃id,v= .row id 0 l.length/\h.get id=some (.rw sz l)/\id<h.next/\l≠[]
def Keeps(h h':Heap)(v:AV):Prop:=h.next <=h'.next/\∀id,id<h.next->(∀off n,v≠.row id off n)->h'.get id=h.get id
section
variable{h:Heap}{v:AV}{sz:Nat}{l:List AV}
theorem Blt.nil:Blt h .nilslice sz []:=.inl ⟨rfl,rfl⟩
theorem Blt.out(b:Blt h v sz l):outV (some v)=some v:=by rcases b with⟨rfl,_⟩|⟨id,rfl,_⟩<;>rfl
theorem Blt.len(b:Blt h v sz l):lenS v=some l.length:=by rcases b with⟨rfl,rfl⟩|⟨id,rfl,_⟩<;>rfl
theorem Blt.cells(b:Blt h v sz l):v.cells=[v]:=by rcases b with⟨rfl,_⟩|⟨id,rfl,_⟩<;>rfl
theorem Blt.tup(b:Blt h v sz l):isTuple v=false:=by rcases b with⟨rfl,_⟩|⟨id,rfl,_⟩<;>rfl
theorem Blt.frz1(b:Blt h v sz l):∃h',frz1 h v=some (slN l,h')/\h'.next=h.next/\∀id,(∀off n,v≠.row id off n)->h'.get id=h.get id:=by
 rcases b with⟨rfl,rfl⟩|⟨id,rfl,hg,_,hne⟩
 ·exact⟨h,rfl,rfl,fun _ _=>rfl⟩
 ·refine⟨h.del id,?_,rfl,fun j hj=>?_⟩
  ·simp only[Go.AM.frz1,hg,Nat.zero_add,Nat.le_refl,if_true,List.drop_zero,List.take_length]
   cases l with
   |nil=>exact absurd rfl hne
   |cons x l=>rfl
  ·have:id≠j:=fun e=>hj 0 l.length (by rw[e])
   simp[Heap.get,Heap.del,this]
theorem Blt.freeze(b:Blt h v sz l):∃h',_root_.Go.AM.freeze h v=some (slN l,h')/\_root_.Go.AM.frz2 h v=some (slN l,h')/\_root_.Go.AM.frz1 h v=some (slN l,h'):=by
 obtain⟨h',e,_⟩:=b.frz1;have e1:_root_.Go.AM.freeze h v=_root_.Go.AM.frz1 h v:=by rcases b with⟨rfl,_⟩|⟨id,rfl,_⟩<;>rfl
 have e2:_root_.Go.AM.frz2 h v=_root_.Go.AM.frz1 h v:=by rcases b with⟨rfl,_⟩|⟨id,rfl,_⟩<;>rfl
 exact⟨h',e1.trans e,e2.trans e,e⟩
theorem Blt.elems(b:Blt h v sz l):h.elems v=some l:=by
 rcases b with⟨rfl,rfl⟩|⟨id,rfl,hg,_⟩
 ·rfl
 ·simp[Heap.elems,hg]
theorem Blt.idx(b:Blt h v sz l){P:Program}{t e:TypeId}{ag:Bool}{k:Nat}(hu:P.underlying t=some (.slice e))(hl:lay P e=some (ag,sz))(hk:k<l.length) :
  ∃id,indexAddrV P h t v (.int .i64 k)=some (.eptr id sz k 0)/\h.get id=some (.rw sz l):=by
 rcases b with⟨_,rfl⟩|⟨id,rfl,hg,_⟩
 ·simp at hk
 ·refine⟨id,?_,hg⟩
  have:idxV (.int .i64 k) l.length=some k:=by simp[idxV,hk]
  simp only[indexAddrV,hu,hl,this,hg,if_true,Nat.zero_add]
end
section
variable{X:Ctx}{ops:Array Oper}{K P:AV->Fr->Prop}{F:Fr}{d:Option Tmp}{T:TypeId}{p:String}{af:Array Edge}
theorem append_blt{P:Program}{t e:TypeId}{x:AV}{new l:List AV}(hel:elemT P t=some e)(hrow:rowable P e=true)(hsz:∀v∈new,v.cells.length=szT P e)(hb:Blt F.hp x (szT P e) l)(hlen:l.length+new.length <=most)(hne:new≠[]) :
  ∃v' h',appendV P F t x new=some (v',{ F with hp:=h' })/\Blt h' v' (szT P e) (l++new)/\Keeps F.hp h' x/\v'= .row F.hp.next 0 (l++new).length:=by
 have h1:(new.all fun v=>v.cells.length==szT P e)=true:=List.all_eq_true.2 fun v hv=>by simpa using hsz v hv
 have h2:¬new.length=0:=by simpa using hne
 have h3:l++new≠[]:=by simp[hne]
 unfold appendV;simp only[hel,h1,hrow,Bool.not_true,Bool.or_self,Bool.false_eq_true,if_false,h2];rcases hb with⟨rfl,rfl⟩|⟨id,rfl,hg,hid,_⟩
 ·refine⟨.row F.hp.next 0 new.length,F.hp.new (.rw (szT P e) new),?_,.inr ⟨F.hp.next,rfl,?_,?_,h3⟩,?_⟩
  ·simp only
   rw[if_pos (by simpa using hlen)]
  ·simp[Heap.get,Heap.new]
  ·simp[Heap.new]
  ·constructor
   ·refine⟨by simp[Heap.new],fun j hj _=>?_⟩
    have:F.hp.next≠j:=by omega
    simp[Heap.get,Heap.new,this]
   ·simp
 ·refine⟨.row F.hp.next 0 (l.length+new.length),(F.hp.del id).new (.rw (szT P e) (l.drop 0++new)),?_,.inr ⟨F.hp.next,by simp,?_,?_,h3⟩,⟨?_,fun j hj hv=>?_⟩,by simp⟩
  ·simp only[hg]
   rw[if_pos ⟨trivial,by simp,hlen⟩]
  ·simp[Heap.get,Heap.new,Heap.del]
  ·simp[Heap.new,Heap.del]
  ·simp[Heap.new,Heap.del]
  ·have h4:F.hp.next≠j:=by omega
   have h5:id≠j:=fun e=>hv 0 l.length (by rw[e]);simp[Heap.get,Heap.new,Heap.del,h4,h5]
theorem WO1.append{args:Array Operand}{at_:Array TypeId}{t u e e':TypeId}{tl:List TypeId}{sz:Nat}{x y:AV}{new l:List AV}(hb:Blt F.hp x sz l)(hargs:F.opvs args.toList=some [x,y])(ht:at_.toList=t::u::tl)(hu:X.P.underlying u=some (.slice e'))
  (hel:elemT X.P t=some e) (hs:szT X.P e=sz) (hrow:rowable X.P e=true) (hy:F.hp.elems y=some new) (hsz:∀v∈new,v.cells.length=sz) (hlen:l.length+new.length <=most) (hne:new≠[])
  (h:∀v' h',Blt h' v' sz (l++new)->outV (some v')=some v'->Keeps F.hp h' x->K v' (({ F with hp:=h' }:Fr).put d v')):WO1 X ops ⟨d,.call ⟨.builtin .append,args,at_⟩,T,p,af,none⟩ F K P:=by
 subst hs;obtain⟨v',h',q1,q2,q3,_⟩:=append_blt hel hrow hsz hb hlen hne;refine U5 (v:=v') (F':={ F with hp:=h' }) rfl (fun cl rd=>?_) (h v' h' q2 q2.out q3)
 simp only[efV,Fr.callOp,Fr.builtinE,Fr.appendE,ht,hargs,hu];cases y<;>first|(simp only[hy,q1,okO];done)|simp[Heap.elems]at hy
end
theorem elems_v(h:Heap)(l:List AV):h.elems (.vslice l)=some l:=rfl
theorem elems_nil(h:Heap):h.elems .nilslice=some []:=rfl
theorem elems_e(h:Heap):h.elems .vempty=some []:=rfl
attribute [go_sem] elems_v elems_nil elems_e
theorem W.loopN{X:Ctx}{F:Fr}{Q:Out->Prop}{body:Code}(n:Nat)(I:Nat->Fr->Prop)(h0:I 0 F)(round:∀k F,I k F->W X body F (thenQ (fun F'=>k<n/\I (k+1) F') Q)):W X (.loop body) F Q:=by
 have key:∀j k F,n - k <=j->I k F->W X (.loop body) F Q:=by
  intro j;induction j with
  |zero=>
   intro k F hj hI;obtain⟨o,⟨m,hm⟩,hq⟩:=round k F hI;cases o with
   |norm F'=>obtain⟨h1,_⟩:=hq;omega
   |exit i F'=>exact⟨_,Ev.step ⟨m,fun m' hm'=>by simp[evStep,hm m' hm']⟩,hq⟩
   |ret F'=>exact⟨_,Ev.step ⟨m,fun m' hm'=>by simp[evStep,hm m' hm']⟩,hq⟩
   |pan v F'=>exact⟨_,Ev.step ⟨m,fun m' hm'=>by simp[evStep,hm m' hm']⟩,hq⟩
   |fail=>exact⟨_,Ev.step ⟨m,fun m' hm'=>by simp[evStep,hm m' hm']⟩,hq⟩
  | succ j ih =>
   intro k F hj hI;obtain⟨o,⟨m,hm⟩,hq⟩:=round k F hI;cases o with
   |norm F'=>
    obtain⟨h1,h2⟩:=hq;obtain⟨o2,⟨m2,hm2⟩,hq2⟩:=ih (k+1) F' (by omega) h2;exact⟨o2,Ev.step ⟨max m m2,fun m' hm'=>by simp[evStep,hm m' (by omega),hm2 m' (by omega)]⟩,hq2⟩
   |exit i F'=>exact⟨_,Ev.step ⟨m,fun m' hm'=>by simp[evStep,hm m' hm']⟩,hq⟩
   |ret F'=>exact⟨_,Ev.step ⟨m,fun m' hm'=>by simp[evStep,hm m' hm']⟩,hq⟩
   |pan v F'=>exact⟨_,Ev.step ⟨m,fun m' hm'=>by simp[evStep,hm m' hm']⟩,hq⟩
   |fail=>exact⟨_,Ev.step ⟨m,fun m' hm'=>by simp[evStep,hm m' hm']⟩,hq⟩
 exact key n 0 F (by omega) h0
theorem wrap_small{n:Int}(h1:-4611686018427387904 <=n)(h2:n <=4611686018427387904):IntKind.i64.wrap n=n:=by
 simp[IntKind.wrap,IntKind.signed,IntKind.bits];split<;>omega
theorem wrap_succ{k m:Nat}(h:k<m)(hm:m <=maxL):IntKind.i64.wrap (↑k+1)=↑(k+1):=by
 unfold maxL at hm;rw[wrap_small (by omega) (by omega)];simp
end Go.AM
namespace Go.AM
open Go
variable{P:Program}{H:Type}{enc:TypeId×Value->H}
def tileB(P:Program)(tot:Nat):Nat->List Field->Bool
 |acc,[]=>acc==tot
 |acc,f::r=>f.offset==acc&&tileB P tot (acc+P.cellsOf f.type) r
def plainT(P:Program):Nat->TypeId->Bool
 |0,_=>false
 |n+1,t=>match P.underlying t with
  |some .bool|some (.int _)|some .string=>true
  |some (.slice e)=>plainT P n e&&Nat.ble 1 (P.cellsOf e)&&(isAggT P e||P.cellsOf e==1)
  |some (.struct fs)=>(fs.toList.all fun f=>plainT P n f.type)&&tileB P (P.cellsOf t) 0 fs.toList
  |_=>false
def ShF(S:TypeId->List AV->Prop):List Field->List AV->Prop
 | [],xa=>xa=[]
 |f::r,xa=>∃x y,xa=x++y/\S f.type x/\ShF S r y
def Sh(P:Program):Nat->TypeId->List AV->Prop
 |0,_,_=>False
 |n+1,t,xa=>match P.underlying t with
  |some .bool=>∃b,xa=[.bool b]
  |some (.int k)=>∃i,xa=[.int k i]/\(Lit.int k i).wf=true
  |some .string=>∃s,xa=[.str s]/\s.length <=maxLen
  |some (.slice e)=>∃a es,xa=[a]/\isSl a es/\es.length <=maxLen/\∀x∈es,∃xs,x=asElem (isAggT P e) xs/\Sh P n e xs
  |some (.struct fs)=>ShF (Sh P n) fs.toList xa
  |_=>False
inductive VL(C:Cfg):List AV->List Value->Prop
 |nil:VL C [] []
 |cons {a:AV} {v:Value} {xa:List AV} {vs:List Value}:VR C a v->a.one=true->VL C xa vs->VL C (a::xa) (v::vs)
theorem VL.append{C:Cfg}{xa bs:List AV}{vs us:List Value}(h:VL C xa vs)(k:VL C bs us):VL C (xa++bs) (vs++us):=by
 induction h with
 |nil=>exact k
 |cons h1 h2 _ ih=>exact .cons h1 h2 ih
theorem VL.len{C:Cfg}{xa:List AV}{vs:List Value}(h:VL C xa vs):xa.length=vs.length:=by
 induction h with
 |nil=>rfl
 |cons _ _ _ ih=>simp[ih]
theorem VL.get{C:Cfg}{xa:List AV}{vs:List Value}(h:VL C xa vs):∀(i:Nat) (a:AV),xa[i]? =some a->a.one=true/\∃v,vs[i]? =some v/\VR C a v:=by
 induction h with
 |nil=>intro i a e;simp at e
 |cons h1 h2 _ ih=>
  intro i a e;cases i with
  |zero=>simp at e;subst e;exact⟨h2,_,rfl,h1⟩
  |succ i=>simpa using ih i a (by simpa using e)
theorem VL.one{C:Cfg}{xa:List AV}{vs:List Value}(h:VL C xa vs):∀a∈xa,a.one=true:=by
 intro a ha;obtain⟨i,hi⟩:=List.mem_iff_getElem?.1 ha;exact(h.get i a hi).1
theorem exists_list{α:Type}{p:Nat->α->Prop}:∀n,(∀i,i<n->∃y,p i y)->∃l:List α,l.length=n/\∀i,i<n->∃y,l[i]? =some y/\p i y:=by
 intro n;induction n with
 |zero=>intro _;exact⟨[],rfl,fun i hi=>by omega⟩
 | succ n ih =>
  intro h;obtain⟨l,hl,hp⟩:=ih (fun i hi=>h i (by omega));obtain⟨y,hy⟩:=h n (by omega);refine⟨l++[y],by simp[hl],fun i hi=>?_⟩;by_cases hn:i<n
  ·obtain⟨z,hz,hz2⟩:=hp i hn
   exact⟨z,by rw[List.getElem?_append_left (by omega)];exact hz,hz2⟩
  ·have:i=n:=by omega
   subst this;exact⟨y,by rw[List.getElem?_append_right (by omega),hl];simp,hy⟩
theorem cells_get{w:World}{base n:Nat}{a:Addr}{cs:List Value}(h:w.cells? base a n=some cs):cs.length=n/\∀i,i<n->∃v,cs[i]? =some v/\w.cell? (a.add i)=some v:=by
 unfold World.cells? at h;split at h
 ·refine⟨by simpa using Lib.mapM_length h,fun i hi=>?_⟩
  exact Lib.mapM_at h i i (by simp[hi])
 ·cases h
theorem add_add{a:Addr}(hs:a.spot=none)(i j:Nat):(a.add i).add j=⟨a.block,a.off+i+j,none⟩:=by
 obtain⟨b,o,s⟩:=a;cases hs;unfold Addr.add;by_cases hi:i=0<;>by_cases hj:j=0<;>simp[hi,hj]
theorem tile_VL{C:Cfg}{S:TypeId->List AV->Prop}{tot:Nat}{cs:List Value}(hl:cs.length=tot):∀(fs:List Field) (acc:Nat),tileB P tot acc fs=true->
  (∀f∈fs,∃xa,VL C xa ((cs.drop f.offset).take (P.cellsOf f.type))/\S f.type xa)->∃xa,VL C xa (cs.drop acc)/\ShF S fs xa:=by
 intro fs;induction fs with
 |nil=>
  intro acc h _;simp only[tileB,beq_iff_eq]at h;subst h;refine⟨[],?_,rfl⟩;rw[List.drop_of_length_le (by omega)];exact .nil
 | cons f r ih =>
  intro acc h hf;simp only[tileB,Bool.and_eq_true,beq_iff_eq]at h;obtain⟨h1,h2⟩:=h;obtain⟨xa,k1,k2⟩:=hf f (by simp);obtain⟨bs,g1,g2⟩:=ih _ h2 (fun f' hf'=>hf f' (by simp[hf']));refine⟨xa++bs,?_,xa,bs,rfl,k2,g2⟩;rw[h1]at k1;have:cs.drop acc=(cs.drop acc).take (P.cellsOf f.type)++cs.drop (acc+P.cellsOf f.type):=by
   rw[<-List.drop_drop,List.take_append_drop]
  rw[this];exact k1.append g1
theorem asEl_cells{xa:List AV}{ag:Bool}(h:ag=true\/xa.length=1)(ho:∀a∈xa,a.one=true):(asElem ag xa).cells=xa:=by
 cases ag with
 |true=>rfl
 | false =>
  rcases h with h|h
  ·cases h
  ·match xa,h with
   | [a],_=>
    have:=ho a (by simp);cases a<;>first|rfl|simp[AV.one]at this
theorem opens {w : World} (n : Nat) : ∀ (t : TypeId) (cs : List Value) (fuel : Nat) (x : DataW H × List MemPlace), plainT P n t = true ->
  DataW.trod enc P w 0 (fun _=>true) true fuel t cs=some x->∃xa,VL ⟨fun _=>none,w.cell?⟩ xa cs/\Sh P n t xa:=by
 induction n with
 |zero=>intro t cs fuel x h;simp[plainT]at h
 | succ n ih =>
  intro t cs fuel x h hx;unfold plainT at h;unfold Sh;cases hu:P.underlying t with
  |none=>rw[hu]at h;cases h
  | some d =>
   rw[hu]at h;cases d with
   |bool=>
    obtain⟨b,rfl,_⟩:=DataW.trod_bool hu hx;exact⟨[.bool b],.cons (.bool b) rfl .nil,b,rfl⟩
   |int k=>
    obtain⟨i,rfl,_,hw⟩:=DataW.trod_int hu hx;exact⟨[.int k i],.cons (.int k i) rfl .nil,i,rfl,hw⟩
   | string =>
    obtain⟨s,rfl,_,hs⟩:=DataW.trod_string hu hx;refine⟨[.str s.data.toList],.cons ?_ rfl .nil,s.data.toList,rfl,?_⟩
    ·have:s=⟨⟨s.data.toList⟩⟩:=by rfl
     rw[this];exact .str _
    ·rw[Array.length_toList];exact hs
   | slice e =>
    simp only[Bool.and_eq_true,Bool.or_eq_true,beq_iff_eq]at h;obtain⟨⟨h1,h2⟩,h3⟩:=h;have h2:=Nat.le_of_ble_eq_true h2;rcases DataW.trod_slice hu hx with⟨rfl,_⟩|⟨a,len,cap,elems,rest,m,rfl,rfl,_,_,hlc,hcm,hel,hget,_,_⟩
    ·exact⟨[.nilslice],.cons .nilslice rfl .nil,_,[],rfl,.inl ⟨.inl rfl,rfl⟩,by simp,fun x hx=>by cases hx⟩
    ·
     have key:∀i,i<len->∃xs,(∃us,w.cells? 0 (a.add (i * P.cellsOf e)) (P.cellsOf e)=some us/\VL ⟨fun _=>none,w.cell?⟩ xs us)/\Sh P n e xs:=by
      intro i hi;have hg:=hget i hi;have:i<elems.length:=by omega
      rw[List.getElem?_eq_getElem this]at hg;obtain⟨us,hus,htr⟩:=Option.bind_eq_some_iff.1 hg;obtain⟨xs,k1,k2⟩:=ih e us m _ h1 htr;exact⟨xs,⟨us,hus,k1⟩,k2⟩
     obtain⟨ls,hll,hls⟩:=exists_list len key;have hone:∀xs∈ls,(∀a∈xs,a.one=true)/\xs.length=P.cellsOf e/\Sh P n e xs:=by
      intro xs hxs;obtain⟨i,hi⟩:=List.mem_iff_getElem?.1 hxs;have hil:i<len:=by
       rcases Nat.lt_or_ge i ls.length with h' |h'
       ·omega
       ·rw[List.getElem?_eq_none h']at hi;cases hi
      obtain⟨y,hy,⟨us,hus,hv⟩,hs⟩:=hls i hil;rw[hi]at hy;cases hy;exact⟨hv.one,by rw[hv.len];exact(cells_get hus).1,hs⟩
     have hcell:∀xs∈ls,(asElem (isAggT P e) xs).cells=xs:=fun xs hxs=>asEl_cells (h3.imp id (fun h=>(hone xs hxs).2.1.trans h)) (hone xs hxs).1;by_cases hlen:len=0
     ·subst hlen
      have:ls=[]:=List.eq_nil_of_length_eq_zero hll;refine⟨[.vslice []],.cons (.vslice0 a cap) rfl .nil,_,[],rfl,.inr rfl,by simp,fun x hx=>by cases hx⟩
     ·
      obtain⟨y0,_,⟨us0,hus0,_⟩,_⟩:=hls 0 (by omega);obtain⟨_,hc0⟩:=cells_get hus0;obtain⟨v0,_,hv0⟩:=hc0 0 (by omega);have hspot:a.spot=none:=by
       have:(a.add (0 * P.cellsOf e)).add 0=a:=by simp[Addr.add]
       rw[this]at hv0;unfold World.cell? at hv0;split at hv0
       ·split at hv0
        ·cases hv0
        ·rename_i hh;cases hsp:a.spot with
         |none=>rfl
         |some s=>simp[hsp]at hh
       ·cases hv0
      have haddr:a=⟨a.block,a.off,none⟩:=by obtain⟨b,o,s⟩:=a;cases hspot;rfl
      refine⟨[.vslice (ls.map (asElem (isAggT P e)))],.cons ?_ rfl .nil,_,ls.map (asElem (isAggT P e)),rfl,.inr rfl,by simp;omega,?_⟩
      ·have hval:∀i j,i<(ls.map (asElem (isAggT P e))).length->j<P.cellsOf e->∃v,w.cell? ⟨a.block,a.off+i * P.cellsOf e+j,none⟩=some v/\VR ⟨fun _=>none,w.cell?⟩ (((ls.map (asElem (isAggT P e))).getD i .junk).cells.getD j .junk) v:=by
        intro i j hi hj;rw[List.length_map]at hi;obtain⟨xs,hxs,⟨us,hus,hv⟩,hs⟩:=hls i (by omega);have hmem:=List.mem_of_getElem? hxs;have e1:(ls.map (asElem (isAggT P e))).getD i .junk=asElem (isAggT P e) xs:=by simp[List.getD,hxs]
        rw[e1,hcell xs hmem];have hjl:j<xs.length:=by rw[(hone xs hmem).2.1];exact hj
        obtain⟨_,v,hv1,hv2⟩:=hv.get j xs[j] (by simp[hjl]);obtain⟨_,hcs⟩:=cells_get hus;obtain⟨v',g1,g2⟩:=hcs j hj;rw[hv1]at g1;cases g1;rw[add_add hspot]at g2;refine⟨v,g2,?_⟩;have:xs.getD j .junk=xs[j]:=by simp[List.getD,hjl]
        rw[this];exact hv2
       have hl2:(ls.map (asElem (isAggT P e))).length=len:=by simp[hll]
       rw[haddr,<-hl2];refine VR.vslice (sz:=P.cellsOf e) (fun i j=>(w.cell? ⟨a.block,a.off+i * P.cellsOf e+j,none⟩).getD undef) (by omega) ?_ ?_ ?_ ?_
       ·intro x hx
        obtain⟨xs,hxs,rfl⟩:=List.mem_map.1 hx;rw[hcell xs hxs];exact(hone xs hxs).2.1
       ·intro i j hi hj
        obtain⟨v,hv,_⟩:=hval i j hi hj;simp[hv]
       ·intro i j hi hj
        obtain⟨v,hv,hr⟩:=hval i j hi hj;simp only[hv,Option.getD_some];exact hr
       ·intro x hx c hc
        obtain⟨xs,hxs,rfl⟩:=List.mem_map.1 hx;rw[hcell xs hxs]at hc;exact(hone xs hxs).1 c hc
      ·intro x hx
       obtain⟨xs,hxs,rfl⟩:=List.mem_map.1 hx;exact⟨xs,rfl,(hone xs hxs).2.2⟩
   | struct fs =>
    simp only[Bool.and_eq_true]at h;obtain⟨h1,h2⟩:=h;obtain⟨xs,m,rfl,_,hcl,hxl,hget⟩:=DataW.trod_struct hu hx;have:=tile_VL (P:=P) (C:=⟨fun _=>none,w.cell?⟩) (S:=Sh P n) hcl fs.toList 0 h2 (fun f hf=>by
     obtain⟨i,hi⟩:=List.mem_iff_getElem?.1 hf;have hi':fs[i]? =some f:=by simpa using hi
     have hg:=hget i f hi';have hil:i<xs.length:=by
      rw[hxl];exact(Array.getElem?_eq_some_iff.1 hi').1
     rw[List.getElem?_eq_getElem hil]at hg;exact ih f.type _ m _ (List.all_eq_true.1 h1 f hf) hg)
    simpa using this
   |_=>cases h
end Go.AM
namespace Go.AM
open Go
variable[Keep]
def HExt(h h':Heap):Prop:=h.next <=h'.next/\∀id,id<h.next->h'.get id=h.get id
theorem HExt.refl(h:Heap):HExt h h:=⟨Nat.le_refl _,fun _ _=>rfl⟩
theorem HExt.trans{a b c:Heap}(h:HExt a b)(k:HExt b c):HExt a c:=⟨Nat.le_trans h.1 k.1,fun id hi=>(k.2 id (Nat.lt_of_lt_of_le hi h.1)).trans (h.2 id hi)⟩
def BltN(b:Nat)(h:Heap)(v:AV)(sz:Nat)(l:List AV):Prop:=(v= .nilslice/\l=[])\/∃id,v= .row id 0 l.length/\h.get id=some (.rw sz l)/\b <=id/\id<h.next/\l≠[]
section
variable{b:Nat}{h h0:Heap}{v:AV}{sz:Nat}{l:List AV}
theorem BltN.nil:BltN b h .nilslice sz []:=.inl ⟨rfl,rfl⟩
theorem BltN.blt(q:BltN b h v sz l):Blt h v sz l:=by
 rcases q with q|⟨id,h1,h2,_,h3⟩
 ·exact .inl q
 ·exact .inr ⟨id,h1,h2,h3⟩
theorem BltN.row(q:BltN b h v sz l)(hne:l≠[]):∃id,v= .row id 0 l.length/\h.get id=some (.rw sz l)/\b <=id/\id<h.next:=by
 rcases q with⟨_,rfl⟩|⟨id,h1,h2,h3,h4,_⟩
 ·exact absurd rfl hne
 ·exact⟨id,h1,h2,h3,h4⟩
theorem BltN.keep(q:BltN b h v sz l)(e:HExt h h0):BltN b h0 v sz l:=by
 rcases q with q|⟨id,h1,h2,h3,h4,h5⟩
 ·exact .inl q
 ·exact .inr ⟨id,h1,(e.2 id h4).trans h2,h3,Nat.lt_of_lt_of_le h4 e.1,h5⟩
theorem BltN.freeze(q:BltN b h v sz l):∃h',_root_.Go.AM.freeze h v=some (slN l,h')/\_root_.Go.AM.frz2 h v=some (slN l,h')/\_root_.Go.AM.frz1 h v=some (slN l,h')/\h'.next=h.next/\∀id,id<b->h'.get id=h.get id:=by
 obtain⟨h',e,e1,e2⟩:=q.blt.frz1;obtain⟨h'',f1,f2,f3⟩:=q.blt.freeze;rw[e]at f3;have:h''=h':=by simpa using(Prod.mk.inj (Option.some.inj f3)).2.symm
 subst this;refine⟨h'',f1,f2,e,e1,fun id hid=>e2 id fun off n ev=>?_⟩;rcases q with⟨rfl,_⟩|⟨j,rfl,_,hj,_⟩
 ·cases ev
 ·cases ev;omega
end
section
variable{X:Ctx}{ops:Array Oper}{K P:AV->Fr->Prop}{F:Fr}{d:Option Tmp}{T:TypeId}{p:String}{af:Array Edge}
theorem WO1.appendN{args:Array Operand}{at_:Array TypeId}{t u e e':TypeId}{tl:List TypeId}{sz b:Nat}{x y:AV}{new l:List AV}{h0:Heap}(hb:BltN b F.hp x sz l)(hx:b <=F.hp.next/\∀id,id<b->F.hp.get id=h0.get id)(hargs:F.opvs args.toList=some [x,y])(ht:at_.toList=t::u::tl)(hu:X.P.underlying u=some (.slice e'))
  (hel:elemT X.P t=some e) (hs:szT X.P e=sz) (hrow:rowable X.P e=true) (hy:F.hp.elems y=some new) (hsz:∀v∈new,v.cells.length=sz) (hlen:l.length+new.length <=most) (hne:new≠[])
  (h:∀v' h',BltN b h' v' sz (l++new)->outV (some v')=some v'->(b <=h'.next/\∀id,id<b->h'.get id=h0.get id)->K v' (({ F with hp:=h' }:Fr).put d v')):WO1 X ops ⟨d,.call ⟨.builtin .append,args,at_⟩,T,p,af,none⟩ F K P:=by
 subst hs;obtain⟨v',h',q1,q2,q3,q4⟩:=append_blt hel hrow hsz hb.blt hlen hne;refine U5 (v:=v') (F':={ F with hp:=h' }) rfl (fun cl rd=>?_) (h v' h' ?_ q2.out ?_)
 ·simp only[efV,Fr.callOp,Fr.builtinE,Fr.appendE,ht,hargs,hu]
  cases y<;>first|(simp only[hy,q1,okO];done)|simp[Heap.elems]at hy
 ·rcases q2 with⟨q,e⟩|⟨id,g1,g2,g3,g4⟩
  ·exact absurd e (by simp[hne])
  ·refine .inr ⟨id,g1,g2,?_,g3,g4⟩
   rw[q4]at g1;cases g1;exact hx.1
 ·refine⟨Nat.le_trans hx.1 q3.1,fun id hid=>?_⟩
  rw[q3.2 id (Nat.lt_of_lt_of_le hid hx.1) fun off n e=>?_,hx.2 id hid];rcases hb with⟨rfl,_⟩|⟨j,rfl,_,hj,_⟩
  ·cases e
  ·cases e;omega
end
end Go.AM
namespace Go.AM
open Go
variable[Keep]
section
variable{X:Ctx}{ops:Array Oper}{o:Oper}{F:Fr}{Q:Out->Prop}
end
end Go.AM
namespace Go.AM
open Go
variable[Keep]
def DefR(X:Ctx)(df:List (AV×List AV))(h:Heap)(st:Option AV)(Q:Heap->Option AV->Prop):Prop:=
 ∃h' st',(∃n,∀m,n <=m->deferV X (ev X m) df h st=some (h',st'))/\Q h' st'
section
variable{X:Ctx}{h:Heap}{st:Option AV}{Q:Heap->Option AV->Prop}
theorem DefR.nil(q:Q h st):DefR X [] h st Q:=⟨h,st,⟨0,fun _ _=>rfl⟩,q⟩
def endDef(X:Ctx)(r:List (AV×List AV))(Q:Heap->Option AV->Prop):Out->Prop
 | .norm F| .ret F=>F.df=[]/\DefR X r F.hp (stillUp F.up) Q
 |_=>False
theorem endDef_norm{r:List (AV×List AV)}{F:Fr}:endDef X r Q (.norm F)↔F.df=[]/\DefR X r F.hp (stillUp F.up) Q:=Iff.rfl
theorem DefR.cons{g:FuncId}{first args capt:List AV}{r:List (AV×List AV)}{fn:Func}{c:Code}(hf:X.P.funcs[g]? =some fn)(hres:fn.results.isEmpty=true)(hb:fn.body=some c)(hok:codeOk fn.ntmps c=true)(hn:Nat.blt fn.ntmps ((first++args)++capt).length=false)
  (hw:W X c { f:=g,rnd:=false,e:=entryEnv ((first++args)++capt) 0 .nil,lm:=.nil,hp:=h,df:=[],up:=st.map fun v=>(v,false) } (endDef X r Q)):DefR X ((.func (.func g) first capt,args)::r) h st Q:=by
 obtain⟨o,⟨n,hn2⟩,hq⟩:=hw;have hn':¬fn.ntmps<((first++args)++capt).length:=fun h=>by
  rw[show Nat.blt fn.ntmps ((first++args)++capt).length=true from by rw[Nat.blt_eq];exact h]at hn;cases hn
 have hbody:∀m,n <=m->dbodyV X (ev X m) g ((first++args)++capt) h (st.map fun v=>(v,false))=o:=fun m hm=>by
  unfold dbodyV bodyV;rw[hf];simp only[hres,hb,if_true];rw[if_neg (by rintro(h' |h');exact hn' h';rw[hok]at h';cases h')];exact hn2 m hm
 cases o with
 |norm F=>
  obtain⟨h1,h',st',⟨k,hk⟩,q⟩:=hq;refine⟨h',st',⟨max n k,fun m hm=>?_⟩,q⟩;simp only[deferV,hbody m (by omega),h1,List.isEmpty_nil,if_true];exact hk m (by omega)
 |ret F=>
  obtain⟨h1,h',st',⟨k,hk⟩,q⟩:=hq;refine⟨h',st',⟨max n k,fun m hm=>?_⟩,q⟩;simp only[deferV,hbody m (by omega),h1,List.isEmpty_nil,if_true];exact hk m (by omega)
 |pan v F=>exact hq.elim
 |exit i F=>exact hq.elim
 |fail=>exact hq.elim
end
def afterD(X:Ctx)(f:FuncId)(R:COut->Prop)(F:Fr)(h:Heap):Option AV->Prop
 |some v=>R (.pan v h none)
 |none=>R (resV X f { F with hp:=h,df:=[] })
theorem afterD_none{X:Ctx}{f:FuncId}{R:COut->Prop}{F:Fr}{h:Heap}:afterD X f R F h none↔R (resV X f { F with hp:=h,df:=[] }):=Iff.rfl
def endD(X:Ctx)(f:FuncId)(R:COut->Prop):Out->Prop
 | .norm F| .ret F=>DefR X F.df F.hp none (afterD X f R F)
 | .pan v F=>DefR X F.df F.hp (some v) (afterD X f R F)
 |_=>False
theorem endD_ret{X:Ctx}{f:FuncId}{R:COut->Prop}{F:Fr}:endD X f R (.ret F)↔DefR X F.df F.hp none (afterD X f R F):=Iff.rfl
theorem endD_pan{X:Ctx}{f:FuncId}{R:COut->Prop}{F:Fr}{v:AV}:endD X f R (.pan v F)↔DefR X F.df F.hp (some v) (afterD X f R F):=Iff.rfl
theorem finD{X:Ctx}{f:FuncId}{R:COut->Prop}{F:Fr}{st:Option AV}{n:Nat}{cl:Nat->COut}(hc:∀m,n <=m->cl m=finV X (ev X m) f F st)(q:DefR X F.df F.hp st (afterD X f R F)):∃r,(∃n,∀m,n <=m->cl m=r)/\R r:=by
 obtain⟨h',st',⟨k,hk⟩,q⟩:=q;cases st' with
 |some v=>
  refine⟨.pan v h' none,⟨max n k,fun m hm=>?_⟩,q⟩;rw[hc m (by omega)];simp only[finV,hk m (by omega)]
 |none=>
  refine⟨resV X f { F with hp:=h',df:=[] },⟨max n k,fun m hm=>?_⟩,q⟩
  rw[hc m (by omega)];simp only[finV,hk m (by omega)]
theorem ClR.walkD{X:Ctx}{f:FuncId}{args:List AV}{h:Heap}{fn:Func}{c:Code}{R:COut->Prop}(hi:X.intr f=none)(hf:X.P.funcs[f]? =some fn)(hb:fn.body=some c)(hok:codeOk fn.ntmps c=true)(hn:Nat.blt fn.ntmps args.length=false)
  (hw:W X c { f,rnd:=false,e:=entryEnv args 0 .nil,lm:=.nil,hp:=h,df:=[],up:=none } (endD X f R)):ClR X f args h R:=by
 obtain⟨o,⟨n,hn2⟩,hq⟩:=hw;have hn':¬fn.ntmps<args.length:=fun h=>by
  rw[show Nat.blt fn.ntmps args.length=true from by simpa[Nat.blt_eq]using h]at hn;cases hn
 have hbody:∀m,n <=m->bodyV X (ev X m) f args h none=o:=fun m hm=>by
  unfold bodyV;rw[hf];simp only[hb];rw[if_neg (by rintro(h' |h');exact hn' h';rw[hok]at h';cases h')];exact hn2 m hm
 have key:(∃r,(∃n,∀m,n <=m->callF X (ev X m) f args h=r)/\R r)->ClR X f args h R:=id;cases o with
 |norm F=>
  exact key (finD (n:=n) (fun m hm=>by unfold callF atOnceF;rw[hi];simp only[hbody m hm]) hq)
 |ret F=>
  exact key (finD (n:=n) (fun m hm=>by unfold callF atOnceF;rw[hi];simp only[hbody m hm]) hq)
 |pan v F=>
  exact key (finD (n:=n) (fun m hm=>by unfold callF atOnceF;rw[hi];simp only[hbody m hm]) hq)
 |exit i F=>exact hq.elim
 |fail=>exact hq.elim
end Go.AM
namespace Go.AM
open Go Go.Proofs
variable[Keep]
def dHts:FuncId->List Tmp
 |22=>[5,4,3]
 |27=>[5,4,3]
 |30=>[3]
 |31=>[5,4,3]
 |32=>[3]
 |38=>[5,4]
 |40=>[12,7,6,5,4]
 |45=>[5,4,3]
 |50=>[8,7,6,4,1]
 |51=>[3,2]
 |56=>[4,1]
 |74=>[6,2]
 |78=>[5]
 |79=>[4]
 |97=>[12,9,7,6,5,4]
 |101=>[6,5,4,3,2]
 |120=>[5,2]
 |122=>[2]
 |135=>[28]
 |140=>[16,13,12]
 |149=>[3,2]
 |153=>[8]
 |163=>[9,8,7]
 |189=>[5]
 |199=>[12]
 |_=>[]
def dRws:FuncId->List Tmp
 |57=>[20]
 |121=>[22]
 |_=>[]
def dFrz:FuncId->Bool
 |135| 74| 103| 104| 84| 27| 28| 30| 32| 34| 35| 36| 38| 39| 40| 44| 50| 54| 56| 59| 124| 87| 109| 144| 114| 115=>false
 |_=>true
noncomputable def dX(intr:Itr):Ctx:={ P:=Tryz.prog,hts:=dHts,rws:=dRws,frz:=dFrz,intr }
theorem d_num:NoNum Tryz.prog:=by
 intro f fn h;have:(Tryz.prog.funcs.all fun fn=>(fn.name== "runtime.NumGoroutine")==false)=true:=by kernel_rfl
 have h2:=Array.all_eq_true.1 this;obtain⟨hf,rfl⟩:=Array.getElem?_eq_some_iff.1 h;simpa using h2 f hf
theorem d_mix:Tryz.prog.follows .mixedOrders=true:=by kernel_rfl
theorem dX_sound{intr:Itr}(h:∀f g,intr f=some g->IntrFn Tryz.prog f g):Sound (dX intr):=⟨d_num,d_mix,h⟩
theorem dX_P(intr:Itr):(dX intr).P=Tryz.prog:=rfl
theorem dX_hts(intr:Itr):(dX intr).hts=dHts:=rfl
theorem dX_rws(intr:Itr):(dX intr).rws=dRws:=rfl
theorem dX_frz(intr:Itr):(dX intr).frz=dFrz:=rfl
attribute [go_sem] dX_P dX_hts dX_rws dX_frz
end Go.AM
namespace Go.AM
open Go
attribute [go_sem] decide_true decide_false sliceOf fillE List.replicate_succ List.replicate_zero List.set_cons_zero List.set_cons_succ ne_eq not_false_eq_true List.toList_toArray List.drop_nil List.append_nil Bool.not_true Bool.not_false List.length_cons List.length_nil List.drop_succ_cons List.drop_zero List.take_succ_cons List.take_zero List.getElem?_cons_succ List.getElem?_cons_zero List.nil_append List.cons_append true_or or_true and_true true_and Bool.or_self Bool.or_false Bool.false_or
theorem Z1{p:Prop}(h:p:=by(simp only[go_sem, *,Nat.reduceLT,Int.reduceEq,Int.reduceBEq,Int.reduceLE,Int.reduceLT,Nat.reduceAdd,Nat.reduceBEq,Nat.reduceEqDiff,reduceIte,Nat.reduceLeDiff,Nat.reduceMul,Nat.reduceSub,reduceCtorEq];with_reducible rfl)):p:=h
theorem Z4{p:Prop}(h:p:=by(simp only[go_sem, *,Nat.reduceLT,Int.reduceEq,Int.reduceBEq,Int.reduceLE,Int.reduceLT,Nat.reduceAdd,Nat.reduceBEq,Nat.reduceEqDiff,reduceIte,Nat.reduceLeDiff,Nat.reduceMul,Nat.reduceSub,reduceCtorEq,prepAll,List.append_eq];with_reducible rfl)):p:=h
theorem Z2{p:Prop}(h:p:=by(simp only[go_sem, *,Nat.reduceLT,Int.reduceEq,Int.reduceBEq,Int.reduceLE,Int.reduceLT,Nat.reduceAdd,Nat.reduceBEq,Nat.reduceEqDiff,reduceIte,Nat.reduceLeDiff,Nat.reduceMul,Nat.reduceSub,reduceCtorEq]<;>fail)):p:=h
theorem Z3{p:Prop}(h:p:=by(intro cl rd;simp only[go_sem, *,Nat.reduceLT,Int.reduceEq,Int.reduceBEq,Int.reduceLE,Int.reduceLT,Nat.reduceAdd,Nat.reduceBEq,Nat.reduceEqDiff,reduceIte,Nat.reduceLeDiff,Nat.reduceMul,Nat.reduceSub,reduceCtorEq,efV,Fr.allocE,Fr.boxE,Fr.storeE,newBox,okO,nextGen,dHts,List.contains_nil,List.contains_cons,AV.cells,isTuple,write_lptr,write_ptr,write_eptr,splice];with_reducible rfl)):p:=h
theorem J5{P:Prop}(h:P:=by(simp only[resultsV,resultV,go_sem, *,Nat.reduceLT,Int.reduceEq,Int.reduceBEq,Int.reduceLE,Int.reduceLT,Nat.reduceAdd,Nat.reduceBEq,Nat.reduceEqDiff,reduceIte,Nat.reduceLeDiff,Nat.reduceMul,Nat.reduceSub,reduceCtorEq,frzRes,dFrz,frzCells,isRet_ret,tupleOf]<;>fail)):P:=h
theorem J6{P Q:Prop}(q:Q)(k:Q->P:=by(intro hq;simp only[resultsV,resultV,go_sem, *,Nat.reduceLT,Int.reduceEq,Int.reduceBEq,Int.reduceLE,Int.reduceLT,Nat.reduceAdd,Nat.reduceBEq,Nat.reduceEqDiff,reduceIte,Nat.reduceLeDiff,Nat.reduceMul,Nat.reduceSub,reduceCtorEq,frzRes,dFrz,frzCells,isRet_ret,tupleOf];exact hq)):P:=k q
section
variable{X:Ctx}{ops:Array Oper}{K P:AV->Fr->Prop}{F:Fr}{d:Option Tmp}{op:Op}{T:TypeId}{p:String}{af:Array Edge}{j:Nat}{want:Bool}{o:Oper}{t:Tmp}
theorem J3(ho:ops[j]? =some o)(ht:o.dst=some t)(hb:F.e.get t=some (.bool want))(h:WO1 X ops ⟨d,op,T,p,af,none⟩ F K P):WO1 X ops ⟨d,op,T,p,af,some (j,want)⟩ F K P:=WO1.gyes ho ht hb (by cases want<;>rfl) h
theorem J4(ho:ops[j]? =some o)(ht:o.dst=some t)(hb:F.e.get t=some (.bool (!want)))(h:K undefA (F.put d undefA)):WO1 X ops ⟨d,op,T,p,af,some (j,want)⟩ F K P:=WO1.gno ho ht hb (by cases want<;>rfl) h
end
theorem J1{p:Prop}(h:p):RowKit.Hid p:=Lib.hid h
theorem rV[Keep]{c:Itr}{f:FuncId}{fn:Func}{F:Fr}(hf:Go.Proofs.Tryz.prog.funcs[f]? =some fn):resV (dX c) f F=(match resultsV (dX c).P F fn.results.toList with|none=>.fail|some l=>frzRes (dX c) f F.hp (tupleOf l)):=resV_def (X:=dX c) hf
theorem J10{p:Prop}(h:p:=by(simp only[Heap.get_new,Heap.get_put,hp_get,Mp.get_set,reduceIte];repeat (first|rw[if_pos rfl]|rw[if_neg (by omega)]))):p:=h
end Go.AM
namespace Go.AM
open Go
theorem go1{P Q:Prop}(q:Q)(k:Q->P:=by(intro hq;(first|(refine⟨⟨trivial,trivial⟩,?_⟩)|(refine⟨⟨rfl,rfl⟩,?_⟩)|(refine Z5 rfl rfl ?_)|(refine Z8 rfl rfl ?_)|(refine Z6 ?_)|(refine Z9 ?_;simp only[tN,bN,eN,true_and])|(apply Z7;exact rfl;exact rfl;exact Z1;simp only[pM,pN])|refine Y1 ?_|refine U7 ?_|refine U8 ?_|refine U9 ?_|refine Y2 ?_|(refine Y3 ?_;simp only[tN,bN,eN,true_and])|(apply U4;exact Z1;exact rfl;simp only[pM,pN,rR,rP])|(refine WO1.gyes (b:=true) rfl rfl ?_ rfl ?_;exact Z2)|(refine WO1.gno (b:=true) rfl rfl ?_ rfl ?_;exact Z2;simp only[pM,pN,rR,rP])|(refine WO1.gyes (b:=false) rfl rfl ?_ rfl ?_;exact Z2)|(refine WO1.gno (b:=false) rfl rfl ?_ rfl ?_;exact Z2;simp only[pM,pN,rR,rP])|(apply U5;exact rfl;exact Z3;simp only[pM,pN,rR,rP])|(simp only[tP,bP,eP,true_and])|(refine Y7 ?_;simp only[tR,bR,eR,true_and])|(refine Y8 ?_;simp only[tN,bN,eN,true_and])|(refine Y9 ?_;simp only[tX,bS,bO,Nat.reduceBEq,tN,bN])|(refine Y4 ?_ ?_;exact Z2)|(refine Y5 ?_ ?_;exact Z2)|fail);exact hq)):P:=k q
theorem goS{P Q:Prop}(q:Q)(k:Q->P:=by(intro hq;(first|(refine⟨⟨trivial,trivial⟩,?_⟩)|(refine⟨⟨rfl,rfl⟩,?_⟩)|(refine Z5 rfl rfl ?_)|(refine Z8 rfl rfl ?_)|(refine Z6 ?_)|(refine Z9 ?_;simp only[tN,bN,eN,true_and])|(apply Z7;exact rfl;exact rfl;exact Z1;simp only[pM,pN])|refine Y1 ?_|refine U7 ?_|refine U8 ?_|refine U9 ?_|refine Y2 ?_|(refine Y3 ?_;simp only[tN,bN,eN,true_and])|(apply U4;exact Z1;exact rfl;simp only[pM,pN,rR,rP])|(refine WO1.gyes (b:=true) rfl rfl ?_ rfl ?_;exact Z2)|(refine WO1.gno (b:=true) rfl rfl ?_ rfl ?_;exact Z2;simp only[pM,pN,rR,rP])|(refine WO1.gyes (b:=false) rfl rfl ?_ rfl ?_;exact Z2)|(refine WO1.gno (b:=false) rfl rfl ?_ rfl ?_;exact Z2;simp only[pM,pN,rR,rP])|(apply U5;exact rfl;exact Z3;simp only[pM,pN,rR,rP])|(simp only[tP,bP,eP,true_and])|(refine Y7 ?_;simp only[tR,bR,eR,true_and])|(refine Y8 ?_;simp only[tN,bN,eN,true_and])|(refine Y9 ?_;simp only[tX,bS,bO,Nat.reduceBEq,tN,bN])|(refine Y4 ?_ ?_;exact Z2)|(refine Y5 ?_ ?_;exact Z2)|fail);(repeat (first|(refine⟨⟨trivial,trivial⟩,?_⟩)|(refine⟨⟨rfl,rfl⟩,?_⟩)|(refine Z5 rfl rfl ?_)|(refine Z8 rfl rfl ?_)|(refine Z6 ?_)|(refine Z9 ?_;simp only[tN,bN,eN,true_and])|(apply Z7;exact rfl;exact rfl;exact Z1;simp only[pM,pN])|refine Y1 ?_|refine U7 ?_|refine U8 ?_|refine U9 ?_|refine Y2 ?_|(refine Y3 ?_;simp only[tN,bN,eN,true_and])|(apply U4;exact Z1;exact rfl;simp only[pM,pN,rR,rP])|(refine WO1.gyes (b:=true) rfl rfl ?_ rfl ?_;exact Z2)|(refine WO1.gno (b:=true) rfl rfl ?_ rfl ?_;exact Z2;simp only[pM,pN,rR,rP])|(refine WO1.gyes (b:=false) rfl rfl ?_ rfl ?_;exact Z2)|(refine WO1.gno (b:=false) rfl rfl ?_ rfl ?_;exact Z2;simp only[pM,pN,rR,rP])|(apply U5;exact rfl;exact Z3;simp only[pM,pN,rR,rP])|(simp only[tP,bP,eP,true_and])|(refine Y7 ?_;simp only[tR,bR,eR,true_and])|(refine Y8 ?_;simp only[tN,bN,eN,true_and])|(refine Y9 ?_;simp only[tX,bS,bO,Nat.reduceBEq,tN,bN])|(refine Y4 ?_ ?_;exact Z2)|(refine Y5 ?_ ?_;exact Z2)|fail));exact hq)):P:=k q
theorem go2{P Q R A B:Prop}(q:A->Q)(r:B->R)(k:(A->Q)->(B->R)->P:=by(intro hq hr;(first|(apply U3;exact rfl;exact rfl;exact Z1;refine⟨fun hh=>?_,fun hh=>?_⟩<;>(try simp only[Bool.not_true,Bool.not_false,pM,pN]at hh ⊢)<;>(first|exact hq hh|exact hr hh))|(apply Y6;exact Z1;refine⟨fun hh=>?_,fun hh=>?_⟩<;>(first|exact hq hh|exact hr hh))|fail))):P:=k q r
end Go.AM
namespace Go.AM
open Go Go.Proofs
theorem ty_lay2:lay Tryz.prog 2=some (false,1):=by kernel_rfl
theorem ty_sz2:szT Tryz.prog 2=1:=by kernel_rfl
theorem ty_zero2:zeroT Tryz.prog 2=some (.int .i64 0):=by kernel_rfl
theorem ty_lay3:lay Tryz.prog 3=some (false,1):=by kernel_rfl
theorem ty_sz3:szT Tryz.prog 3=1:=by kernel_rfl
theorem ty_zero3:zeroT Tryz.prog 3=some (.int .i64 0):=by kernel_rfl
theorem ty_lay4:lay Tryz.prog 4=some (false,1):=by kernel_rfl
theorem ty_sz4:szT Tryz.prog 4=1:=by kernel_rfl
theorem ty_zero4:zeroT Tryz.prog 4=some (.bool false):=by kernel_rfl
theorem ty_lay5:lay Tryz.prog 5=some (false,1):=by kernel_rfl
theorem ty_sz5:szT Tryz.prog 5=1:=by kernel_rfl
theorem ty_zero5:zeroT Tryz.prog 5=some (.int .u8 0):=by kernel_rfl
theorem ty_lay9:lay Tryz.prog 9=some (false,1):=by kernel_rfl
theorem ty_sz9:szT Tryz.prog 9=1:=by kernel_rfl
theorem ty_zero9:zeroT Tryz.prog 9=some (.str []):=by kernel_rfl
theorem ty_lay20:lay Tryz.prog 20=some (false,1):=by kernel_rfl
theorem ty_sz20:szT Tryz.prog 20=1:=by kernel_rfl
theorem ty_zero20:zeroT Tryz.prog 20=some (.niliface):=by kernel_rfl
theorem ty_lay21:lay Tryz.prog 21=some (false,1):=by kernel_rfl
theorem ty_sz21:szT Tryz.prog 21=1:=by kernel_rfl
theorem ty_zero21:zeroT Tryz.prog 21=some (.int .i32 0):=by kernel_rfl
theorem ty_lay22:lay Tryz.prog 22=some (false,1):=by kernel_rfl
theorem ty_sz22:szT Tryz.prog 22=1:=by kernel_rfl
theorem ty_zero22:zeroT Tryz.prog 22=some (.nilslice):=by kernel_rfl
theorem ty_el22:elemT Tryz.prog 22=some 76:=by kernel_rfl
theorem ty_row22:rowable Tryz.prog 76=true:=by kernel_rfl
theorem ty_lay24:lay Tryz.prog 24=some (true,3):=by kernel_rfl
theorem ty_sz24:szT Tryz.prog 24=3:=by kernel_rfl
theorem ty_zero24:zeroT Tryz.prog 24=some (.agg [.int .i64 0,.int .i64 0,.nilslice]):=by kernel_rfl
theorem ty_fl24_0:fieldOf Tryz.prog 24 0=some (3,0):=by kernel_rfl
theorem ty_pl24_0:placeOf Tryz.prog 24 0=some (0,1):=by kernel_rfl
theorem ty_fl24_1:fieldOf Tryz.prog 24 1=some (3,1):=by kernel_rfl
theorem ty_pl24_1:placeOf Tryz.prog 24 1=some (1,1):=by kernel_rfl
theorem ty_fl24_2:fieldOf Tryz.prog 24 2=some (22,2):=by kernel_rfl
theorem ty_pl24_2:placeOf Tryz.prog 24 2=some (2,1):=by kernel_rfl
theorem ty_pk24:partsKnown Tryz.prog 24=true:=by kernel_rfl
theorem ty_lay26:lay Tryz.prog 26=some (false,1):=by kernel_rfl
theorem ty_sz26:szT Tryz.prog 26=1:=by kernel_rfl
theorem ty_zero26:zeroT Tryz.prog 26=some (.nilfunc):=by kernel_rfl
theorem ty_lay27:lay Tryz.prog 27=some (false,1):=by kernel_rfl
theorem ty_sz27:szT Tryz.prog 27=1:=by kernel_rfl
theorem ty_zero27:zeroT Tryz.prog 27=some (.int .i64 0):=by kernel_rfl
theorem ty_lay32:lay Tryz.prog 32=some (false,1):=by kernel_rfl
theorem ty_sz32:szT Tryz.prog 32=1:=by kernel_rfl
theorem ty_zero32:zeroT Tryz.prog 32=some (.nilfunc):=by kernel_rfl
theorem ty_lay36:lay Tryz.prog 36=some (false,1):=by kernel_rfl
theorem ty_sz36:szT Tryz.prog 36=1:=by kernel_rfl
theorem ty_zero36:zeroT Tryz.prog 36=some (.nilslice):=by kernel_rfl
theorem ty_el36:elemT Tryz.prog 36=some 3:=by kernel_rfl
theorem ty_row36:rowable Tryz.prog 3=true:=by kernel_rfl
theorem ty_lay40:lay Tryz.prog 40=some (false,1):=by kernel_rfl
theorem ty_sz40:szT Tryz.prog 40=1:=by kernel_rfl
theorem ty_zero40:zeroT Tryz.prog 40=some (.nilfunc):=by kernel_rfl
theorem ty_lay42:lay Tryz.prog 42=some (true,2):=by kernel_rfl
theorem ty_sz42:szT Tryz.prog 42=2:=by kernel_rfl
theorem ty_zero42:zeroT Tryz.prog 42=some (.agg [.int .i64 0,.int .i64 0]):=by kernel_rfl
theorem ty_fl42_0:fieldOf Tryz.prog 42 0=some (3,0):=by kernel_rfl
theorem ty_pl42_0:placeOf Tryz.prog 42 0=some (0,1):=by kernel_rfl
theorem ty_fl42_1:fieldOf Tryz.prog 42 1=some (3,1):=by kernel_rfl
theorem ty_pl42_1:placeOf Tryz.prog 42 1=some (1,1):=by kernel_rfl
theorem ty_pk42:partsKnown Tryz.prog 42=true:=by kernel_rfl
theorem ty_lay45:lay Tryz.prog 45=some (true,2):=by kernel_rfl
theorem ty_sz45:szT Tryz.prog 45=2:=by kernel_rfl
theorem ty_zero45:zeroT Tryz.prog 45=some (.agg [.int .i64 0,.int .i64 0]):=by kernel_rfl
theorem ty_fl45_0:fieldOf Tryz.prog 45 0=some (3,0):=by kernel_rfl
theorem ty_pl45_0:placeOf Tryz.prog 45 0=some (0,1):=by kernel_rfl
theorem ty_fl45_1:fieldOf Tryz.prog 45 1=some (3,1):=by kernel_rfl
theorem ty_pl45_1:placeOf Tryz.prog 45 1=some (1,1):=by kernel_rfl
theorem ty_pk45:partsKnown Tryz.prog 45=true:=by kernel_rfl
theorem ty_lay50:lay Tryz.prog 50=some (false,1):=by kernel_rfl
theorem ty_sz50:szT Tryz.prog 50=1:=by kernel_rfl
theorem ty_zero50:zeroT Tryz.prog 50=some (.nilslice):=by kernel_rfl
theorem ty_el50:elemT Tryz.prog 50=some 54:=by kernel_rfl
theorem ty_row50:rowable Tryz.prog 54=true:=by kernel_rfl
theorem ty_lay54:lay Tryz.prog 54=some (true,2):=by kernel_rfl
theorem ty_sz54:szT Tryz.prog 54=2:=by kernel_rfl
theorem ty_zero54:zeroT Tryz.prog 54=some (.agg [.int .i64 0,.int .i64 0]):=by kernel_rfl
theorem ty_fl54_0:fieldOf Tryz.prog 54 0=some (3,0):=by kernel_rfl
theorem ty_pl54_0:placeOf Tryz.prog 54 0=some (0,1):=by kernel_rfl
theorem ty_fl54_1:fieldOf Tryz.prog 54 1=some (3,1):=by kernel_rfl
theorem ty_pl54_1:placeOf Tryz.prog 54 1=some (1,1):=by kernel_rfl
theorem ty_pk54:partsKnown Tryz.prog 54=true:=by kernel_rfl
theorem ty_lay59:lay Tryz.prog 59=some (false,1):=by kernel_rfl
theorem ty_sz59:szT Tryz.prog 59=1:=by kernel_rfl
theorem ty_zero59:zeroT Tryz.prog 59=some (.nilslice):=by kernel_rfl
theorem ty_el59:elemT Tryz.prog 59=some 45:=by kernel_rfl
theorem ty_row59:rowable Tryz.prog 45=true:=by kernel_rfl
theorem ty_lay73:lay Tryz.prog 73=some (false,1):=by kernel_rfl
theorem ty_sz73:szT Tryz.prog 73=1:=by kernel_rfl
theorem ty_zero73:zeroT Tryz.prog 73=some (.nilslice):=by kernel_rfl
theorem ty_el73:elemT Tryz.prog 73=some 123:=by kernel_rfl
theorem ty_row73:rowable Tryz.prog 123=true:=by kernel_rfl
theorem ty_lay74:lay Tryz.prog 74=some (false,1):=by kernel_rfl
theorem ty_sz74:szT Tryz.prog 74=1:=by kernel_rfl
theorem ty_zero74:zeroT Tryz.prog 74=some (.nilslice):=by kernel_rfl
theorem ty_el74:elemT Tryz.prog 74=some 100:=by kernel_rfl
theorem ty_row74:rowable Tryz.prog 100=true:=by kernel_rfl
theorem ty_lay76:lay Tryz.prog 76=some (true,5):=by kernel_rfl
theorem ty_sz76:szT Tryz.prog 76=5:=by kernel_rfl
theorem ty_zero76:zeroT Tryz.prog 76=some (.agg [.int .i64 0,.int .i64 0,.int .i64 0,.nilslice,.nilslice]):=by kernel_rfl
theorem ty_fl76_0:fieldOf Tryz.prog 76 0=some (3,0):=by kernel_rfl
theorem ty_pl76_0:placeOf Tryz.prog 76 0=some (0,1):=by kernel_rfl
theorem ty_fl76_1:fieldOf Tryz.prog 76 1=some (45,1):=by kernel_rfl
theorem ty_pl76_1:placeOf Tryz.prog 76 1=some (1,2):=by kernel_rfl
theorem ty_fl76_2:fieldOf Tryz.prog 76 2=some (73,3):=by kernel_rfl
theorem ty_pl76_2:placeOf Tryz.prog 76 2=some (3,1):=by kernel_rfl
theorem ty_fl76_3:fieldOf Tryz.prog 76 3=some (74,4):=by kernel_rfl
theorem ty_pl76_3:placeOf Tryz.prog 76 3=some (4,1):=by kernel_rfl
theorem ty_pk76:partsKnown Tryz.prog 76=true:=by kernel_rfl
theorem ty_lay88:lay Tryz.prog 88=some (false,1):=by kernel_rfl
theorem ty_sz88:szT Tryz.prog 88=1:=by kernel_rfl
theorem ty_zero88:zeroT Tryz.prog 88=some (.nilslice):=by kernel_rfl
theorem ty_el88:elemT Tryz.prog 88=some 5:=by kernel_rfl
theorem ty_row88:rowable Tryz.prog 5=true:=by kernel_rfl
theorem ty_lay89:lay Tryz.prog 89=some (false,1):=by kernel_rfl
theorem ty_sz89:szT Tryz.prog 89=1:=by kernel_rfl
theorem ty_zero89:zeroT Tryz.prog 89=some (.nilslice):=by kernel_rfl
theorem ty_el89:elemT Tryz.prog 89=some 36:=by kernel_rfl
theorem ty_row89:rowable Tryz.prog 36=true:=by kernel_rfl
theorem ty_lay91:lay Tryz.prog 91=some (true,4):=by kernel_rfl
theorem ty_sz91:szT Tryz.prog 91=4:=by kernel_rfl
theorem ty_zero91:zeroT Tryz.prog 91=some (.agg [.nilslice,.nilslice,.nilslice,.nilslice]):=by kernel_rfl
theorem ty_fl91_0:fieldOf Tryz.prog 91 0=some (89,0):=by kernel_rfl
theorem ty_pl91_0:placeOf Tryz.prog 91 0=some (0,1):=by kernel_rfl
theorem ty_fl91_1:fieldOf Tryz.prog 91 1=some (36,1):=by kernel_rfl
theorem ty_pl91_1:placeOf Tryz.prog 91 1=some (1,1):=by kernel_rfl
theorem ty_fl91_2:fieldOf Tryz.prog 91 2=some (89,2):=by kernel_rfl
theorem ty_pl91_2:placeOf Tryz.prog 91 2=some (2,1):=by kernel_rfl
theorem ty_fl91_3:fieldOf Tryz.prog 91 3=some (89,3):=by kernel_rfl
theorem ty_pl91_3:placeOf Tryz.prog 91 3=some (3,1):=by kernel_rfl
theorem ty_pk91:partsKnown Tryz.prog 91=true:=by kernel_rfl
theorem ty_lay100:lay Tryz.prog 100=some (true,5):=by kernel_rfl
theorem ty_sz100:szT Tryz.prog 100=5:=by kernel_rfl
theorem ty_zero100:zeroT Tryz.prog 100=some (.agg [.int .i64 0,.int .i64 0,.int .i64 0,.int .i64 0,.int .i64 0]):=by kernel_rfl
theorem ty_fl100_0:fieldOf Tryz.prog 100 0=some (3,0):=by kernel_rfl
theorem ty_pl100_0:placeOf Tryz.prog 100 0=some (0,1):=by kernel_rfl
theorem ty_fl100_1:fieldOf Tryz.prog 100 1=some (45,1):=by kernel_rfl
theorem ty_pl100_1:placeOf Tryz.prog 100 1=some (1,2):=by kernel_rfl
theorem ty_fl100_2:fieldOf Tryz.prog 100 2=some (45,3):=by kernel_rfl
theorem ty_pl100_2:placeOf Tryz.prog 100 2=some (3,2):=by kernel_rfl
theorem ty_pk100:partsKnown Tryz.prog 100=true:=by kernel_rfl
theorem ty_lay111:lay Tryz.prog 111=some (false,1):=by kernel_rfl
theorem ty_sz111:szT Tryz.prog 111=1:=by kernel_rfl
theorem ty_zero111:zeroT Tryz.prog 111=some (.nilslice):=by kernel_rfl
theorem ty_el111:elemT Tryz.prog 111=some 161:=by kernel_rfl
theorem ty_row111:rowable Tryz.prog 161=true:=by kernel_rfl
theorem ty_lay113:lay Tryz.prog 113=some (true,5):=by kernel_rfl
theorem ty_sz113:szT Tryz.prog 113=5:=by kernel_rfl
theorem ty_zero113:zeroT Tryz.prog 113=some (.agg [.int .i64 0,.int .i64 0,.nilslice,.nilslice,.nilslice]):=by kernel_rfl
theorem ty_fl113_0:fieldOf Tryz.prog 113 0=some (24,0):=by kernel_rfl
theorem ty_pl113_0:placeOf Tryz.prog 113 0=some (0,3):=by kernel_rfl
theorem ty_fl113_1:fieldOf Tryz.prog 113 1=some (89,3):=by kernel_rfl
theorem ty_pl113_1:placeOf Tryz.prog 113 1=some (3,1):=by kernel_rfl
theorem ty_fl113_2:fieldOf Tryz.prog 113 2=some (111,4):=by kernel_rfl
theorem ty_pl113_2:placeOf Tryz.prog 113 2=some (4,1):=by kernel_rfl
theorem ty_pk113:partsKnown Tryz.prog 113=true:=by kernel_rfl
theorem ty_lay117:lay Tryz.prog 117=some (true,7):=by kernel_rfl
theorem ty_sz117:szT Tryz.prog 117=7:=by kernel_rfl
theorem ty_zero117:zeroT Tryz.prog 117=some (.agg [.int .i64 0,.int .i64 0,.nilslice,.nilslice,.nilslice,.int .i64 0,.int .i64 0]):=by kernel_rfl
theorem ty_fl117_0:fieldOf Tryz.prog 117 0=some (113,0):=by kernel_rfl
theorem ty_pl117_0:placeOf Tryz.prog 117 0=some (0,5):=by kernel_rfl
theorem ty_fl117_1:fieldOf Tryz.prog 117 1=some (3,5):=by kernel_rfl
theorem ty_pl117_1:placeOf Tryz.prog 117 1=some (5,1):=by kernel_rfl
theorem ty_fl117_2:fieldOf Tryz.prog 117 2=some (3,6):=by kernel_rfl
theorem ty_pl117_2:placeOf Tryz.prog 117 2=some (6,1):=by kernel_rfl
theorem ty_pk117:partsKnown Tryz.prog 117=true:=by kernel_rfl
theorem ty_lay118:lay Tryz.prog 118=some (true,2):=by kernel_rfl
theorem ty_sz118:szT Tryz.prog 118=2:=by kernel_rfl
theorem ty_zero118:zeroT Tryz.prog 118=some (.agg [.int .i64 0,.int .i64 0]):=by kernel_rfl
theorem ty_pl118_0:placeOf Tryz.prog 118 0=some (0,1):=by kernel_rfl
theorem ty_pl118_1:placeOf Tryz.prog 118 1=some (1,1):=by kernel_rfl
theorem ty_pk118:partsKnown Tryz.prog 118=true:=by kernel_rfl
theorem ty_lay119:lay Tryz.prog 119=some (false,1):=by kernel_rfl
theorem ty_sz119:szT Tryz.prog 119=1:=by kernel_rfl
theorem ty_zero119:zeroT Tryz.prog 119=some (.nilfunc):=by kernel_rfl
theorem ty_lay120:lay Tryz.prog 120=some (true,2):=by kernel_rfl
theorem ty_sz120:szT Tryz.prog 120=2:=by kernel_rfl
theorem ty_zero120:zeroT Tryz.prog 120=some (.agg [.nilfunc,.nilfunc]):=by kernel_rfl
theorem ty_pl120_0:placeOf Tryz.prog 120 0=some (0,1):=by kernel_rfl
theorem ty_pl120_1:placeOf Tryz.prog 120 1=some (1,1):=by kernel_rfl
theorem ty_pk120:partsKnown Tryz.prog 120=true:=by kernel_rfl
theorem ty_lay123:lay Tryz.prog 123=some (true,3):=by kernel_rfl
theorem ty_sz123:szT Tryz.prog 123=3:=by kernel_rfl
theorem ty_zero123:zeroT Tryz.prog 123=some (.agg [.int .i64 0,.int .i64 0,.int .i64 0]):=by kernel_rfl
theorem ty_fl123_0:fieldOf Tryz.prog 123 0=some (3,0):=by kernel_rfl
theorem ty_pl123_0:placeOf Tryz.prog 123 0=some (0,1):=by kernel_rfl
theorem ty_fl123_1:fieldOf Tryz.prog 123 1=some (45,1):=by kernel_rfl
theorem ty_pl123_1:placeOf Tryz.prog 123 1=some (1,2):=by kernel_rfl
theorem ty_pk123:partsKnown Tryz.prog 123=true:=by kernel_rfl
theorem ty_lay137:lay Tryz.prog 137=some (false,1):=by kernel_rfl
theorem ty_sz137:szT Tryz.prog 137=1:=by kernel_rfl
theorem ty_zero137:zeroT Tryz.prog 137=some (.nilptr):=by kernel_rfl
theorem ty_lay138:lay Tryz.prog 138=some (false,1):=by kernel_rfl
theorem ty_sz138:szT Tryz.prog 138=1:=by kernel_rfl
theorem ty_zero138:zeroT Tryz.prog 138=some (.nilfunc):=by kernel_rfl
theorem ty_lay142:lay Tryz.prog 142=some (false,1):=by kernel_rfl
theorem ty_sz142:szT Tryz.prog 142=1:=by kernel_rfl
theorem ty_zero142:zeroT Tryz.prog 142=some (.nilmap):=by kernel_rfl
theorem ty_lay144:lay Tryz.prog 144=some (false,1):=by kernel_rfl
theorem ty_sz144:szT Tryz.prog 144=1:=by kernel_rfl
theorem ty_zero144:zeroT Tryz.prog 144=some (.nilfunc):=by kernel_rfl
theorem ty_lay152:lay Tryz.prog 152=some (false,1):=by kernel_rfl
theorem ty_sz152:szT Tryz.prog 152=1:=by kernel_rfl
theorem ty_zero152:zeroT Tryz.prog 152=some (.nilslice):=by kernel_rfl
theorem ty_el152:elemT Tryz.prog 152=some 9:=by kernel_rfl
theorem ty_row152:rowable Tryz.prog 9=true:=by kernel_rfl
theorem ty_lay160:lay Tryz.prog 160=some (false,1):=by kernel_rfl
theorem ty_sz160:szT Tryz.prog 160=1:=by kernel_rfl
theorem ty_zero160:zeroT Tryz.prog 160=some (.nilfunc):=by kernel_rfl
theorem ty_lay161:lay Tryz.prog 161=some (false,1):=by kernel_rfl
theorem ty_sz161:szT Tryz.prog 161=1:=by kernel_rfl
theorem ty_zero161:zeroT Tryz.prog 161=some (.nilptr):=by kernel_rfl
theorem ty_lay162:lay Tryz.prog 162=some (false,1):=by kernel_rfl
theorem ty_sz162:szT Tryz.prog 162=1:=by kernel_rfl
theorem ty_zero162:zeroT Tryz.prog 162=some (.nilfunc):=by kernel_rfl
theorem ty_lay165:lay Tryz.prog 165=some (true,3):=by kernel_rfl
theorem ty_sz165:szT Tryz.prog 165=3:=by kernel_rfl
theorem ty_zero165:zeroT Tryz.prog 165=some (.agg [.int .i64 0,.int .i64 0,.int .i64 0]):=by kernel_rfl
theorem ty_fl165_0:fieldOf Tryz.prog 165 0=some (3,0):=by kernel_rfl
theorem ty_pl165_0:placeOf Tryz.prog 165 0=some (0,1):=by kernel_rfl
theorem ty_fl165_1:fieldOf Tryz.prog 165 1=some (3,1):=by kernel_rfl
theorem ty_pl165_1:placeOf Tryz.prog 165 1=some (1,1):=by kernel_rfl
theorem ty_fl165_2:fieldOf Tryz.prog 165 2=some (3,2):=by kernel_rfl
theorem ty_pl165_2:placeOf Tryz.prog 165 2=some (2,1):=by kernel_rfl
theorem ty_pk165:partsKnown Tryz.prog 165=true:=by kernel_rfl
theorem ty_lay167:lay Tryz.prog 167=some (true,6):=by kernel_rfl
theorem ty_sz167:szT Tryz.prog 167=6:=by kernel_rfl
theorem ty_zero167:zeroT Tryz.prog 167=some (.agg [.int .i64 0,.int .i64 0,.int .i64 0,.int .i64 0,.int .i64 0,.int .i64 0]):=by kernel_rfl
theorem ty_fl167_0:fieldOf Tryz.prog 167 0=some (3,0):=by kernel_rfl
theorem ty_pl167_0:placeOf Tryz.prog 167 0=some (0,1):=by kernel_rfl
theorem ty_fl167_1:fieldOf Tryz.prog 167 1=some (3,1):=by kernel_rfl
theorem ty_pl167_1:placeOf Tryz.prog 167 1=some (1,1):=by kernel_rfl
theorem ty_fl167_2:fieldOf Tryz.prog 167 2=some (3,2):=by kernel_rfl
theorem ty_pl167_2:placeOf Tryz.prog 167 2=some (2,1):=by kernel_rfl
theorem ty_fl167_3:fieldOf Tryz.prog 167 3=some (3,3):=by kernel_rfl
theorem ty_pl167_3:placeOf Tryz.prog 167 3=some (3,1):=by kernel_rfl
theorem ty_fl167_4:fieldOf Tryz.prog 167 4=some (3,4):=by kernel_rfl
theorem ty_pl167_4:placeOf Tryz.prog 167 4=some (4,1):=by kernel_rfl
theorem ty_fl167_5:fieldOf Tryz.prog 167 5=some (3,5):=by kernel_rfl
theorem ty_pl167_5:placeOf Tryz.prog 167 5=some (5,1):=by kernel_rfl
theorem ty_pk167:partsKnown Tryz.prog 167=true:=by kernel_rfl
theorem ty_lay170:lay Tryz.prog 170=some (true,2):=by kernel_rfl
theorem ty_sz170:szT Tryz.prog 170=2:=by kernel_rfl
theorem ty_zero170:zeroT Tryz.prog 170=some (.agg [.int .i64 0,.int .i64 0]):=by kernel_rfl
theorem ty_fl170_0:fieldOf Tryz.prog 170 0=some (3,0):=by kernel_rfl
theorem ty_pl170_0:placeOf Tryz.prog 170 0=some (0,1):=by kernel_rfl
theorem ty_fl170_1:fieldOf Tryz.prog 170 1=some (3,1):=by kernel_rfl
theorem ty_pl170_1:placeOf Tryz.prog 170 1=some (1,1):=by kernel_rfl
theorem ty_pk170:partsKnown Tryz.prog 170=true:=by kernel_rfl
theorem ty_lay172:lay Tryz.prog 172=some (false,1):=by kernel_rfl
theorem ty_sz172:szT Tryz.prog 172=1:=by kernel_rfl
theorem ty_zero172:zeroT Tryz.prog 172=some (.int .u64 0):=by kernel_rfl
theorem ty_lay174:lay Tryz.prog 174=some (false,1):=by kernel_rfl
theorem ty_sz174:szT Tryz.prog 174=1:=by kernel_rfl
theorem ty_zero174:zeroT Tryz.prog 174=some (.nilfunc):=by kernel_rfl
theorem ty_lay176:lay Tryz.prog 176=some (true,3):=by kernel_rfl
theorem ty_sz176:szT Tryz.prog 176=3:=by kernel_rfl
theorem ty_zero176:zeroT Tryz.prog 176=some (.agg [.str [],.str [],.str []]):=by kernel_rfl
theorem ty_pl176_0:placeOf Tryz.prog 176 0=some (0,1):=by kernel_rfl
theorem ty_pl176_1:placeOf Tryz.prog 176 1=some (1,1):=by kernel_rfl
theorem ty_pl176_2:placeOf Tryz.prog 176 2=some (2,1):=by kernel_rfl
theorem ty_pk176:partsKnown Tryz.prog 176=true:=by kernel_rfl
theorem ty_lay181:lay Tryz.prog 181=some (true,1):=by kernel_rfl
theorem ty_sz181:szT Tryz.prog 181=1:=by kernel_rfl
theorem ty_zero181:zeroT Tryz.prog 181=some (.agg [.int .i64 0]):=by kernel_rfl
theorem ty_fl181_0:fieldOf Tryz.prog 181 0=some (3,0):=by kernel_rfl
theorem ty_pl181_0:placeOf Tryz.prog 181 0=some (0,1):=by kernel_rfl
theorem ty_pk181:partsKnown Tryz.prog 181=true:=by kernel_rfl
theorem ty_lay183:lay Tryz.prog 183=some (true,1):=by kernel_rfl
theorem ty_sz183:szT Tryz.prog 183=1:=by kernel_rfl
theorem ty_zero183:zeroT Tryz.prog 183=some (.agg [.str []]):=by kernel_rfl
theorem ty_fl183_0:fieldOf Tryz.prog 183 0=some (9,0):=by kernel_rfl
theorem ty_pl183_0:placeOf Tryz.prog 183 0=some (0,1):=by kernel_rfl
theorem ty_pk183:partsKnown Tryz.prog 183=true:=by kernel_rfl
theorem ty_lay193:lay Tryz.prog 193=some (true,256):=by kernel_rfl
theorem ty_sz193:szT Tryz.prog 193=256:=by kernel_rfl
theorem ty_pl193_0:placeOf Tryz.prog 193 0=some (0,1):=by kernel_rfl
theorem ty_pl193_1:placeOf Tryz.prog 193 1=some (1,1):=by kernel_rfl
theorem ty_pl193_2:placeOf Tryz.prog 193 2=some (2,1):=by kernel_rfl
theorem ty_pl193_3:placeOf Tryz.prog 193 3=some (3,1):=by kernel_rfl
theorem ty_pk193:partsKnown Tryz.prog 193=true:=by kernel_rfl
theorem ty_lay196:lay Tryz.prog 196=some (false,1):=by kernel_rfl
theorem ty_sz196:szT Tryz.prog 196=1:=by kernel_rfl
theorem ty_zero196:zeroT Tryz.prog 196=some (.nilfunc):=by kernel_rfl
theorem ty_lay197:lay Tryz.prog 197=some (true,2):=by kernel_rfl
theorem ty_sz197:szT Tryz.prog 197=2:=by kernel_rfl
theorem ty_zero197:zeroT Tryz.prog 197=some (.agg [.nilfunc,.nilfunc]):=by kernel_rfl
theorem ty_pl197_0:placeOf Tryz.prog 197 0=some (0,1):=by kernel_rfl
theorem ty_pl197_1:placeOf Tryz.prog 197 1=some (1,1):=by kernel_rfl
theorem ty_pk197:partsKnown Tryz.prog 197=true:=by kernel_rfl
theorem ty_lay202:lay Tryz.prog 202=some (false,1):=by kernel_rfl
theorem ty_sz202:szT Tryz.prog 202=1:=by kernel_rfl
theorem ty_zero202:zeroT Tryz.prog 202=some (.int .u32 0):=by kernel_rfl
theorem ty_lay204:lay Tryz.prog 204=some (false,1):=by kernel_rfl
theorem ty_sz204:szT Tryz.prog 204=1:=by kernel_rfl
theorem ty_zero204:zeroT Tryz.prog 204=some (.int .u64 0):=by kernel_rfl
theorem ty_lay206:lay Tryz.prog 206=some (false,1):=by kernel_rfl
theorem ty_sz206:szT Tryz.prog 206=1:=by kernel_rfl
theorem ty_zero206:zeroT Tryz.prog 206=some (.nilfunc):=by kernel_rfl
theorem ty_lay208:lay Tryz.prog 208=some (false,1):=by kernel_rfl
theorem ty_sz208:szT Tryz.prog 208=1:=by kernel_rfl
theorem ty_zero208:zeroT Tryz.prog 208=some (.nilfunc):=by kernel_rfl
theorem ty_lay209:lay Tryz.prog 209=some (false,1):=by kernel_rfl
theorem ty_sz209:szT Tryz.prog 209=1:=by kernel_rfl
theorem ty_zero209:zeroT Tryz.prog 209=some (.nilfunc):=by kernel_rfl
theorem ty_lay210:lay Tryz.prog 210=some (false,1):=by kernel_rfl
theorem ty_sz210:szT Tryz.prog 210=1:=by kernel_rfl
theorem ty_zero210:zeroT Tryz.prog 210=some (.nilptr):=by kernel_rfl
theorem ty_lay212:lay Tryz.prog 212=some (true,2):=by kernel_rfl
theorem ty_sz212:szT Tryz.prog 212=2:=by kernel_rfl
theorem ty_zero212:zeroT Tryz.prog 212=some (.agg [.nilptr,.nilslice]):=by kernel_rfl
theorem ty_fl212_0:fieldOf Tryz.prog 212 0=some (210,0):=by kernel_rfl
theorem ty_pl212_0:placeOf Tryz.prog 212 0=some (0,1):=by kernel_rfl
theorem ty_fl212_1:fieldOf Tryz.prog 212 1=some (88,1):=by kernel_rfl
theorem ty_pl212_1:placeOf Tryz.prog 212 1=some (1,1):=by kernel_rfl
theorem ty_pk212:partsKnown Tryz.prog 212=true:=by kernel_rfl
theorem ty_lay215:lay Tryz.prog 215=some (false,1):=by kernel_rfl
theorem ty_sz215:szT Tryz.prog 215=1:=by kernel_rfl
theorem ty_zero215:zeroT Tryz.prog 215=some (.niliface):=by kernel_rfl
theorem ty_lay223:lay Tryz.prog 223=some (false,1):=by kernel_rfl
theorem ty_sz223:szT Tryz.prog 223=1:=by kernel_rfl
theorem ty_zero223:zeroT Tryz.prog 223=some (.nilptr):=by kernel_rfl
theorem ty_lay226:lay Tryz.prog 226=some (true,24):=by kernel_rfl
theorem ty_sz226:szT Tryz.prog 226=24:=by kernel_rfl
theorem ty_zero226:zeroT Tryz.prog 226=some (.agg [.int .u8 0,.int .u8 0,.int .u8 0,.int .u8 0,.int .u8 0,.int .u8 0,.int .u8 0,.int .u8 0,.int .u8 0,.int .u8 0,.int .u8 0,.int .u8 0,.int .u8 0,.int .u8 0,.int .u8 0,.int .u8 0,.int .u8 0,.int .u8 0,.int .u8 0,.int .u8 0,.int .u8 0,.int .u8 0,.int .u8 0,.int .u8 0]):=by kernel_rfl
theorem ty_pl226_0:placeOf Tryz.prog 226 0=some (0,1):=by kernel_rfl
theorem ty_pl226_1:placeOf Tryz.prog 226 1=some (1,1):=by kernel_rfl
theorem ty_pl226_2:placeOf Tryz.prog 226 2=some (2,1):=by kernel_rfl
theorem ty_pl226_3:placeOf Tryz.prog 226 3=some (3,1):=by kernel_rfl
theorem ty_pk226:partsKnown Tryz.prog 226=true:=by kernel_rfl
theorem ty_lay237:lay Tryz.prog 237=some (true,20):=by kernel_rfl
theorem ty_sz237:szT Tryz.prog 237=20:=by kernel_rfl
theorem ty_zero237:zeroT Tryz.prog 237=some (.agg [.int .u64 0,.int .u64 0,.int .u64 0,.int .u64 0,.int .u64 0,.int .u64 0,.int .u64 0,.int .u64 0,.int .u64 0,.int .u64 0,.int .u64 0,.int .u64 0,.int .u64 0,.int .u64 0,.int .u64 0,.int .u64 0,.int .u64 0,.int .u64 0,.int .u64 0,.int .u64 0]):=by kernel_rfl
theorem ty_pl237_0:placeOf Tryz.prog 237 0=some (0,1):=by kernel_rfl
theorem ty_pl237_1:placeOf Tryz.prog 237 1=some (1,1):=by kernel_rfl
theorem ty_pl237_2:placeOf Tryz.prog 237 2=some (2,1):=by kernel_rfl
theorem ty_pl237_3:placeOf Tryz.prog 237 3=some (3,1):=by kernel_rfl
theorem ty_pk237:partsKnown Tryz.prog 237=true:=by kernel_rfl
theorem ty_lay238:lay Tryz.prog 238=some (true,65):=by kernel_rfl
theorem ty_sz238:szT Tryz.prog 238=65:=by kernel_rfl
theorem ty_pl238_0:placeOf Tryz.prog 238 0=some (0,1):=by kernel_rfl
theorem ty_pl238_1:placeOf Tryz.prog 238 1=some (1,1):=by kernel_rfl
theorem ty_pl238_2:placeOf Tryz.prog 238 2=some (2,1):=by kernel_rfl
theorem ty_pl238_3:placeOf Tryz.prog 238 3=some (3,1):=by kernel_rfl
theorem ty_pk238:partsKnown Tryz.prog 238=true:=by kernel_rfl
attribute [go_sem] ty_lay2 ty_sz2 ty_zero2 ty_lay3 ty_sz3 ty_zero3 ty_lay4 ty_sz4 ty_zero4 ty_lay5 ty_sz5 ty_zero5 ty_lay9 ty_sz9 ty_zero9 ty_lay20 ty_sz20 ty_zero20 ty_lay21 ty_sz21 ty_zero21 ty_lay22 ty_sz22 ty_zero22 ty_el22 ty_row22 ty_lay24 ty_sz24 ty_zero24 ty_fl24_0 ty_pl24_0 ty_fl24_1 ty_pl24_1 ty_fl24_2 ty_pl24_2 ty_pk24 ty_lay26 ty_sz26 ty_zero26 ty_lay27 ty_sz27 ty_zero27 ty_lay32 ty_sz32 ty_zero32 ty_lay36 ty_sz36 ty_zero36 ty_el36 ty_row36 ty_lay40 ty_sz40 ty_zero40 ty_lay42 ty_sz42 ty_zero42 ty_fl42_0 ty_pl42_0 ty_fl42_1 ty_pl42_1 ty_pk42 ty_lay45 ty_sz45 ty_zero45 ty_fl45_0 ty_pl45_0 ty_fl45_1 ty_pl45_1 ty_pk45 ty_lay50 ty_sz50 ty_zero50 ty_el50 ty_row50 ty_lay54 ty_sz54 ty_zero54 ty_fl54_0 ty_pl54_0 ty_fl54_1 ty_pl54_1 ty_pk54 ty_lay59 ty_sz59 ty_zero59 ty_el59 ty_row59 ty_lay73 ty_sz73 ty_zero73 ty_el73 ty_row73 ty_lay74 ty_sz74 ty_zero74 ty_el74 ty_row74 ty_lay76 ty_sz76 ty_zero76 ty_fl76_0 ty_pl76_0 ty_fl76_1 ty_pl76_1 ty_fl76_2 ty_pl76_2 ty_fl76_3 ty_pl76_3 ty_pk76 ty_lay88 ty_sz88 ty_zero88 ty_el88 ty_row88 ty_lay89 ty_sz89 ty_zero89 ty_el89 ty_row89 ty_lay91 ty_sz91 ty_zero91 ty_fl91_0 ty_pl91_0 ty_fl91_1 ty_pl91_1 ty_fl91_2 ty_pl91_2 ty_fl91_3 ty_pl91_3 ty_pk91 ty_lay100 ty_sz100 ty_zero100 ty_fl100_0 ty_pl100_0 ty_fl100_1 ty_pl100_1 ty_fl100_2 ty_pl100_2 ty_pk100 ty_lay111 ty_sz111 ty_zero111 ty_el111 ty_row111 ty_lay113 ty_sz113 ty_zero113 ty_fl113_0 ty_pl113_0 ty_fl113_1 ty_pl113_1 ty_fl113_2 ty_pl113_2 ty_pk113 ty_lay117 ty_sz117 ty_zero117 ty_fl117_0 ty_pl117_0 ty_fl117_1 ty_pl117_1 ty_fl117_2 ty_pl117_2 ty_pk117 ty_lay118 ty_sz118 ty_zero118 ty_pl118_0 ty_pl118_1 ty_pk118 ty_lay119 ty_sz119 ty_zero119 ty_lay120 ty_sz120 ty_zero120 ty_pl120_0 ty_pl120_1 ty_pk120 ty_lay123 ty_sz123 ty_zero123 ty_fl123_0 ty_pl123_0 ty_fl123_1 ty_pl123_1 ty_pk123 ty_lay137 ty_sz137 ty_zero137 ty_lay138 ty_sz138 ty_zero138 ty_lay142 ty_sz142 ty_zero142 ty_lay144 ty_sz144 ty_zero144 ty_lay152 ty_sz152 ty_zero152 ty_el152 ty_row152 ty_lay160 ty_sz160 ty_zero160 ty_lay161 ty_sz161 ty_zero161 ty_lay162 ty_sz162 ty_zero162 ty_lay165 ty_sz165 ty_zero165 ty_fl165_0 ty_pl165_0 ty_fl165_1 ty_pl165_1 ty_fl165_2 ty_pl165_2 ty_pk165 ty_lay167 ty_sz167 ty_zero167 ty_fl167_0 ty_pl167_0 ty_fl167_1 ty_pl167_1 ty_fl167_2 ty_pl167_2 ty_fl167_3 ty_pl167_3 ty_fl167_4 ty_pl167_4 ty_fl167_5 ty_pl167_5 ty_pk167 ty_lay170 ty_sz170 ty_zero170 ty_fl170_0 ty_pl170_0 ty_fl170_1 ty_pl170_1 ty_pk170 ty_lay172 ty_sz172 ty_zero172 ty_lay174 ty_sz174 ty_zero174 ty_lay176 ty_sz176 ty_zero176 ty_pl176_0 ty_pl176_1 ty_pl176_2 ty_pk176 ty_lay181 ty_sz181 ty_zero181 ty_fl181_0 ty_pl181_0 ty_pk181 ty_lay183 ty_sz183 ty_zero183 ty_fl183_0 ty_pl183_0 ty_pk183 ty_lay193 ty_sz193 ty_pl193_0 ty_pl193_1 ty_pl193_2 ty_pl193_3 ty_pk193 ty_lay196 ty_sz196 ty_zero196 ty_lay197 ty_sz197 ty_zero197 ty_pl197_0 ty_pl197_1 ty_pk197 ty_lay202 ty_sz202 ty_zero202 ty_lay204 ty_sz204 ty_zero204 ty_lay206 ty_sz206 ty_zero206 ty_lay208 ty_sz208 ty_zero208 ty_lay209 ty_sz209 ty_zero209 ty_lay210 ty_sz210 ty_zero210 ty_lay212 ty_sz212 ty_zero212 ty_fl212_0 ty_pl212_0 ty_fl212_1 ty_pl212_1 ty_pk212 ty_lay215 ty_sz215 ty_zero215 ty_lay223 ty_sz223 ty_zero223 ty_lay226 ty_sz226 ty_zero226 ty_pl226_0 ty_pl226_1 ty_pl226_2 ty_pl226_3 ty_pk226 ty_lay237 ty_sz237 ty_zero237 ty_pl237_0 ty_pl237_1 ty_pl237_2 ty_pl237_3 ty_pk237 ty_lay238 ty_sz238 ty_pl238_0 ty_pl238_1 ty_pl238_2 ty_pl238_3 ty_pk238
attribute [go_sem] Tryz.underlying2 Tryz.underlying3 Tryz.underlying4 Tryz.underlying5 Tryz.underlying9 Tryz.underlying20 Tryz.underlying21 Tryz.underlying22 Tryz.underlying24 Tryz.underlying27 Tryz.underlying36 Tryz.underlying42 Tryz.underlying45 Tryz.underlying50 Tryz.underlying54 Tryz.underlying59 Tryz.underlying73 Tryz.underlying74 Tryz.underlying76 Tryz.underlying88 Tryz.underlying89 Tryz.underlying91 Tryz.underlying100 Tryz.underlying111 Tryz.underlying113 Tryz.underlying117 Tryz.underlying118 Tryz.underlying120 Tryz.underlying123 Tryz.underlying142 Tryz.underlying152 Tryz.underlying165 Tryz.underlying167 Tryz.underlying170 Tryz.underlying172 Tryz.underlying176 Tryz.underlying181 Tryz.underlying183 Tryz.underlying193 Tryz.underlying197 Tryz.underlying202 Tryz.underlying204 Tryz.underlying212 Tryz.underlying215 Tryz.underlying226 Tryz.underlying237 Tryz.underlying238
end Go.AM
namespace Go.AM
open Go
theorem gJ{P Q:Prop}(q:Q)(k:Q->P:=by(intro hq;refine WO1.gund rfl rfl ?_ ?_;exact Z2;simp only[pM,pN,rR,rP];exact hq)):P:=k q
theorem uJ{A P Q:Prop}(a:A)(q:Q)(k:A->Q->P:=by(intro ha hq;apply U6;exact Z1;exact Z1;exact ha;simp only[pM,pN,rR,rP];exact hq)):P:=k a q
theorem dT{k n:Nat}(h:k<n):decide ((k:Int)<((n:Nat):Int))=true:=decide_eq_true (Int.ofNat_lt.2 h)
theorem dF{k n:Nat}(h:¬k<n):decide ((k:Int)<((n:Nat):Int))=false:=decide_eq_false (fun q=>h (Int.ofNat_lt.1 q))
end Go.AM
