/-
    A part of the proof: contracts of functions.
-/
import Derived.Test.YtgihdicidaipmaaGreatDoorTBC
import Derived.Test.YtgihdicidaipmaaGreatDoorTAV
import Derived.Test.YtgihdicidaipmaaGreatDoorTBB
import Derived.Test.YtgihdicidaipmaaGreatDoorTAE
import Derived.Shelf.Strings.Split
import Derived.Lib.IndexBytes
set_option linter.unusedSectionVars false
set_option linter.unusedVariables false
set_option maxRecDepth 1000000
namespace Go.AM
open Go Go.Proofs
variable[Keep]
def tab50:List (List AV×AV):=[([bavB 1],.tuple [.vslice [.int .i64 0],.int .i64 0])]
theorem fB50:okS (sp50 [bavB 1]) (.tuple [.vslice [.int .i64 0],.int .i64 0])=true:=by kernel_rfl
theorem T50:IntrFn Tryz.prog 50 (newQ (memoQ tab50)):=newQ_tab F50 fun e he=>by
 unfold tab50 at he;cases List.mem_singleton.1 he;exact okS_is fB50
end Go.AM
set_option linter.unusedSimpArgs false
namespace Go.AM
open Go Go.Proofs
variable[Keep]
theorem viewV_p{h:Heap}{a:AV}(hp:a.pur=true):viewV h a=some a:=by
 cases a<;>first|(simp[AV.pur]at hp;done)|(simp only[viewV,hp,if_true];done)
theorem viewVs_p{h:Heap}:∀{l:List AV},AV.purL l=true->viewVs h l=some l
 | [],_=>rfl
 |a::r,hp=>by
  simp only[AV.purL,Bool.and_eq_true]at hp;simp only[viewVs,viewV_p hp.1,viewVs_p hp.2]
theorem viewD_p{h:Heap}{a:AV}(hp:a.pur=true):viewD h a=some a:=by
 cases a with
 |agg l=>simp only[viewD,viewVs_p (l:=l) (by simpa[AV.pur]using hp),Option.map_some]
 |_=>exact viewV_p (h:=h) hp
theorem viewDs_p{h:Heap}:∀{l:List AV},AV.purL l=true->viewDs h l=some l
 | [],_=>rfl
 |a::r,hp=>by
  simp only[AV.purL,Bool.and_eq_true]at hp;simp only[viewDs,viewD_p hp.1,viewDs_p hp.2]
variable{X:Ctx}{a:AV}{b:Bk}
theorem K30(hX:X.intr 30=some (newQ sp30))(hb:bkV a=some b)(A D:Int)(h:Heap):Cl X 30 [a,.agg [.int .i64 A,.int .i64 D]] h (.ret (couldV b A D) h none):=
 Cl.newQ hX (viewDs_p (by simp only[AV.purL,AV.pur,bk_pur hb,Bool.and_self])) (by simp only[sp30,hb,Option.map_some])
theorem K31(hX:X.intr 31=some (pureFn sp31))(hb:bkV a=some b)(A D m:Int)(h:Heap):Cl X 31 [a,.agg [.int .i64 A,.int .i64 D],.int .i64 m] h (.ret (betV b A D m) h none):=
 Cl.intr hX (by simp only[pureFn,AV.purL,AV.pur,bk_pur hb,Bool.and_self,if_true,sp31,hb,Option.map_some])
theorem K32(hX:X.intr 32=some (newQ sp32))(hb:bkV a=some b)(A D:Int)(h:Heap):Cl X 32 [a,.agg [.int .i64 A,.int .i64 D]] h (.ret (whoV b A D) h none):=
 Cl.newQ hX (viewDs_p (by simp only[AV.purL,AV.pur,bk_pur hb,Bool.and_self])) (by simp only[sp32,hb,Option.map_some])
theorem K45(hX:X.intr 45=some (pureFn sp45))(hb:bkV a=some b)(m s:Int)(h:Heap):Cl X 45 [a,.int .i64 m,.int .i64 s] h (.ret (confV b m s) h none):=
 Cl.intr hX (by simp only[pureFn,AV.purL,AV.pur,bk_pur hb,Bool.and_self,if_true,sp45,hb,Option.map_some])
theorem nats_sl{g:List Nat}(hg:g.length <=maxL):slV intC (slN (natsE g))=some (intsN g):=by
 have e:natsE g=(intsN g).map intC.enc:=by unfold natsE intsN;rw[List.map_map];rfl
 rw[e];exact slV_slN (by unfold intsN;rw[List.length_map];exact hg)
end Go.AM
namespace Go.AM
open Go
variable[Keep]
inductive FrzP(h:Heap):AV->AV->Prop
 |pur {a:AV}:a.pur=true->FrzP h a a
 | row {id sz : Nat} {el el' : List AV} : h.get id = some (.rw sz el) -> el ≠ [] -> el.length = el'.length -> (∀ e ∈ el', e.cells.length = sz) -> (∀ e ∈ el', ∀ c ∈ e.cells, c.one = true) ->
   (∀i j,i<el.length->j<sz->FrzP h ((el.getD i .junk).cells.getD j .junk) ((el'.getD i .junk).cells.getD j .junk))->FrzP h (.row id 0 el.length) (.vslice el')
 |agg {l m:List AV}:l.length=m.length->(∀i,i<l.length->FrzP h (l.getD i .junk) (m.getD i .junk))->(∀x∈m,x.one=true)->FrzP h (.agg l) (.agg m)
 |tuple {l m:List AV}:l.length=m.length->(∀i,i<l.length->FrzP h (l.getD i .junk) (m.getD i .junk))->FrzP h (.tuple l) (.tuple m)
variable{C:Cfg}{h:Heap}{w:World}
end Go.AM
namespace Go.AM
open Go
variable[Keep]
def pairsSame:List (AV×AV)->List (AV×AV)->Bool
 | [],[]=>true
 |(a,b)::l,(c,d)::r=>(AV.same a c&&AV.same b d)&&pairsSame l r
 |_,_=>false
theorem pairsSame_eq:∀{l r:List (AV×AV)},pairsSame l r=true->l=r
 | [],[],_=>rfl
 |(a,b)::l,(c,d)::r,h=>by
  simp only[pairsSame,Bool.and_eq_true]at h;rw[AV.same_eq _ _ h.1.1,AV.same_eq _ _ h.1.2,pairsSame_eq h.2]
 | [],(_,_)::_,h=>by cases h
 |(_,_)::_,[],h=>by cases h
def Blk.same:Blk->Blk->Bool
 | .var a,.var b=>AV.sameL a b
 | .rw s a,.rw t b=>Nat.beq s t&&AV.sameL a b
 | .mp a,.mp b=>pairsSame a b
 |_,_=>false
theorem Blk.same_eq{a b:Blk}(h:Blk.same a b=true):a=b:=by
 cases a<;>cases b<;>simp only[Blk.same,Bool.and_eq_true,Bool.false_eq_true]at h
 ·rw[AV.sameL_eq _ _ h]
 ·rw[Nat.eq_of_beq_eq_true h.1,AV.sameL_eq _ _ h.2]
 ·rw[pairsSame_eq h]
section
variable{C:Cfg}{h:Heap}{w:World}
theorem WR.sub(r:WR C h w){H:Heap}(hn:H.next=h.next)(hs:∀id b,H.get id=some b->h.get id=some b):WR C H w:=
 ⟨r.sig,fun id b e=>r.blk id b (hs _ _ e),fun id id' b b' L L' e e'=>r.inj id id' b b' L L' (hs _ _ e) (hs _ _ e'),fun id b L x v e=>r.apart id b L x v (hs _ _ e),fun id L e=>by rw[hn];exact r.fresh id L e,r.base⟩
theorem WR.part(r:WR C h w){H h1 h':Heap}{C':Cfg}{w':World}(hn:H.next=h.next)(hs:∀id b,H.get id=some b->h.get id=some b)(q5:WR C' h1 w')(q6:Ext C H (fun _=>False) w C' h1 (fun _=>False) w')(hn':h'.next=h1.next)
  (key:∀id b,h'.get id=some b->h1.get id=some b\/(h.get id=some b/\∀b',H.get id≠some b')):WR C' h' w'/\Ext C h (fun _=>False) w C' h' (fun _=>False) w':=by
 have old:∀id b,h.get id=some b->∃L,C.mu id=some L/\C'.mu id=some L/\L.b<w.heap.size:=fun id b e=>by
  obtain⟨L,k1,k2⟩:=r.blk id b e;exact⟨L,k1,q6.le.mu _ _ k1,k2.lt⟩
 have off:∀id b L,h.get id=some b->(∀b',H.get id≠some b')->C.mu id=some L->¬Live C H L.b:=by
  rintro id b L e hno m ⟨id2,b2,L2,e2,m2,hb⟩;have:=r.inj id id2 b b2 L L2 e (hs _ _ e2) m m2 hb.symm;subst this;exact hno _ e2
 have mix:∀id b L id' b' L',h1.get id=some b->C'.mu id=some L->h.get id'=some b'->(∀c,H.get id'≠some c)->C'.mu id'=some L'->L.b≠L'.b:=by
  intro id b L id' b' L' e m e' hno m' hb;obtain⟨L0,k1,k2,k3⟩:=old id' b' e';rw[m']at k2;cases k2;rcases q6.live L'.b k3 ⟨id,b,L,e,m,hb⟩with q|q
  ·exact off id' b' L' e' hno k1 q
  ·exact q
 have sub:∀ β,Live C H β->Live C h β:=by
  rintro β ⟨id,b,L,e,m,hb⟩;exact⟨id,b,L,hs _ _ e,m,hb⟩
 refine⟨⟨q5.sig,fun id b e=>?_,fun id id' b b' L L' e e' m m' hb=>?_,fun id b L x v e m s hx=>?_,fun id L e=>by rw[hn'];exact q5.fresh id L e,q5.base⟩,?_⟩
 ·rcases key id b e with k|⟨k1,k2⟩
  ·exact q5.blk id b k
  ·obtain⟨L,m1,m2⟩:=r.blk id b k1
   exact⟨L,q6.le.mu _ _ m1,m2.same q6.le (q6.same _ m2.lt (off id b L k1 k2 m1) (fun f=>f))⟩
 ·rcases key id b e with k|⟨k1,k2⟩<;>rcases key id' b' e' with j|⟨j1,j2⟩
  ·exact q5.inj id id' b b' L L' k j m m' hb
  ·exact(mix id b L id' b' L' k m j1 j2 m' hb).elim
  ·exact(mix id' b' L' id b L j m' k1 k2 m hb.symm).elim
  ·obtain⟨L1,a1,a2,_⟩:=old id b k1
   obtain⟨L2,b1,b2,_⟩:=old id' b' j1;rw[m]at a2;rw[m']at b2;cases a2;cases b2;exact r.inj id id' b b' L L' k1 j1 a1 b1 hb
 ·rcases key id b e with k|⟨k1,k2⟩
  ·exact q5.apart id b L x v k m s hx
  ·obtain⟨L1,a1,a2,a3⟩:=old id b k1
   rw[m]at a2;cases a2;rcases q6.sig x v (by rw[hx];exact a3) s with q|q|q
   ·exact r.apart id b L x v k1 a1 q hx
   ·rw[hx]at q;exact off id b L k1 k2 a1 q
   ·exact q
 ·refine { le:=q6.le,os:=q6.os,tape:=q6.tape,output:=q6.output,size:=q6.size,same:=fun β hb hl _=>q6.same β hb (fun l=>hl (sub _ l)) id,live:=fun β hb l=>?_,own:=fun _ _ o=>o.elim,sig:=fun x u hb e=>?_,next:=by rw[hn',<-hn];exact q6.next }
  ·obtain⟨id,b,L,e,m,hβ⟩:=l
   rcases key id b e with k|⟨k1,k2⟩
   ·rcases q6.live β hb ⟨id,b,L,k,m,hβ⟩with q|q
    ·exact .inl (sub _ q)
    ·exact q.elim
   ·obtain⟨L1,a1,a2,_⟩:=old id b k1
    rw[m]at a2;cases a2;exact .inl ⟨id,b,L,k1,a1,hβ⟩
  ·rcases q6.sig x u hb e with q|q|q
   ·exact .inl q
   ·exact .inr (.inl (sub _ q))
   ·exact q.elim
end
structure Part where
 args:List AV
 next:Nat
 hp:List (Nat×Blk)
 v:AV
 next':Nat
 delta:List (Nat×Option Blk)
end Go.AM
namespace Go.AM
open Go
variable[Keep]
theorem pure_intr1 {X : Ctx} (s : Sound X) {f : FuncId} {spec : List AV -> Option AV} (hp : ∀ args v, spec args = some v -> v.pur = true) (hr : ∀ args v, spec args = some v -> ∃ h' k, callF X (ev X k) f args emptyHp = .ret v h' none) : IntrFn X.P f (pureFn spec) := by
  intro args h v h' hg C w vs r hv;unfold pureFn at hg;split at hg
  · rename_i hpur
    split at hg
    · rename_i u hsp
      cases hg;obtain⟨h1,n,hcall⟩:=hr args v hsp;have hok:=s.call n f args emptyHp ⟨fun _=>none,C.sig⟩ w vs r.bare (hv.pur (fun _ _ h=>h) (purL_mem.1 hpur)) (by rw[hcall];intro e;cases e);refine⟨hok.1,fun cs=>?_⟩;have:=hok.2 cs;rw[hcall]at this;obtain⟨C',w',fr,u,q1,q2,q3,q4,q5,q6⟩:=this;have hle:C.le ⟨C.mu,C'.sig⟩:=⟨fun _ _ h=>h,q6.le.sig⟩;have hsame:∀ β,β<w.heap.size->w'.heap[β]? =w.heap[β]?:=fun β hb=>q6.same β hb emptyHp_live id;have hsig:∀x u,x.block<w.heap.size->C'.sig x=some u->C.sig x=some u:=fun x u hb e=>by
        rcases q6.sig x u hb e with h|h|h
        · exact h
        · exact(emptyHp_live h).elim
        · exact h.elim
      refine⟨⟨C.mu,C'.sig⟩,w',fr,u,q1,q2,q3,q4.pur (fun _ _ h=>h) (hp _ _ hsp),⟨q5.sig,fun id blk e=>?_,r.inj,fun id blk L x u e1 e2 e3 e4=>?_,r.fresh,q5.base⟩,?_⟩
      · obtain ⟨L, k1, k2⟩ := r.blk id blk e
        exact⟨L,k1,k2.same hle (hsame _ k2.lt)⟩
      · obtain ⟨L', k1, k2⟩ := r.blk id blk e1
        rw[e2]at k1;cases k1;have:=k2.lt;exact r.apart id blk L x u e1 e2 (hsig x u (by rw[e4];exact this) e3) e4
      · exact { le := hle, os := q6.os, tape := q6.tape, output := q6.output, size := q6.size, same := fun β hb _ _ => hsame β hb, live := fun β hb l => .inl (by
                  obtain⟨id,blk,L,e1,e2,e3⟩:=l;exact⟨id,blk,L,e1,e2,e3⟩)
                own:=fun _ _ o=>o.elim,sig:=fun x u hb e=>.inl (hsig x u hb e),next:=Nat.le_refl _ }
    · cases hg
  · cases hg
end Go.AM
namespace Go.AM
open Go Go.Proofs Go.Shelf Go.Sort Go.RowKit
variable[Keep]
def strsOf:List AV->Option (List (List UInt8))
 | []=>some []
 | .str s::r=>match strsOf r with|some l=>some (s::l)|none=>none
 |_=>none
theorem strsOf_eq:∀{l:List AV} {xs:List (List UInt8)},strsOf l=some xs->l=xs.map AV.str:=by
 intro l;induction l with
 |nil=>intro xs h;simp[strsOf]at h;subst h;rfl
 | cons a l ih =>
  intro xs h;unfold strsOf at h;split at h
  ·rename_i e;cases e
  ·rename_i s r e
   cases e;split at h
   ·rename_i l' h'
    cases h;rw[ih h'];rfl
   ·cases h
  ·cases h
theorem WR.strs {C : Cfg} {h : Heap} {w : World} (r : WR C h w) {y : AV} {yv : Value} {xs : List (List UInt8)} (hv : VR C y yv) (he : h.elems y = some (xs.map AV.str)) :
  (xs=[]/\∃p c,yv= .slice p 0 c)\/∃B O c,yv= .slice (some ⟨B,O,none⟩) xs.length c/\xs.length <=c/\∀(i:Nat) (s:List UInt8),xs[i]? =some s->w.cell? ⟨B,O+i,none⟩=some (.string ⟨⟨s⟩⟩):=by
 unfold Heap.elems at he;split at he
 ·cases hv
  have:xs=[]:=by simpa using he.symm
  exact .inl ⟨this,_,_,rfl⟩
 ·cases hv
  have:xs=[]:=by simpa using he.symm
  exact .inl ⟨this,_,_,rfl⟩
 ·have he:=Option.some.inj he
  subst he;generalize hl:xs.map AV.str=l at hv;cases hv with
  |vslice0 a cap=>
   have:xs=[]:=by simpa using hl
   exact .inl ⟨this,_,_,rfl⟩
  |vslice vs k1 k2 k3 k4 k5=>
   rename_i sz b o cap;subst hl;refine .inr ⟨b,o,cap,by simp,by simpa using k1,fun i s hi=>?_⟩;have hlt:i<xs.length:=(List.getElem?_eq_some_iff.1 hi).1;have hmem:AV.str s∈xs.map AV.str:=List.mem_map.2 ⟨s,List.mem_of_getElem? hi,rfl⟩;have hsz:sz=1:=by have:=k2 _ hmem;simpa[AV.cells]using this.symm
   subst hsz;have hg:(xs.map AV.str).getD i .junk= .str s:=by simp[List.getD,hi]
   have hs:=r.sig _ _ (k3 i 0 (by simpa using hlt) (by omega));have hv:=k4 i 0 (by simpa using hlt) (by omega);rw[hg]at hv;simp only[AV.cells,List.getD,List.getElem?_cons_zero,Option.getD_some]at hv;generalize vs i 0=u at hs hv;cases hv;simpa using hs
 ·rename_i id off len
  split at he
  ·rename_i sz el hg
   split at he
   ·rename_i hle
    have he:=Option.some.inj he;obtain⟨L,e1,c,f1,f2,f3,f4,f5⟩:=r.blk id _ hg;cases hv with
    | row A e2 k1 k2 k3 =>
     rw[e1]at e2;cases e2;rename_i cap;have hlen:xs.length=len:=by
      have:=congrArg List.length he;simp at this;omega
     by_cases hx:xs=[]
     ·subst hx
      simp at hlen;subst hlen;exact .inl ⟨rfl,_,_,rfl⟩
     ·have hpos:0<xs.length:=List.length_pos_iff.2 hx
      rcases k2 with rfl|rfl
      ·omega
      ·refine .inr ⟨L.b,L.o+off * L.sz,cap,by rw[hlen],by omega,fun i s hi=>?_⟩
       have hlt:i<xs.length:=(List.getElem?_eq_some_iff.1 hi).1;have hei:el[off+i]? =some (.str s):=by
        have:((el.drop off).take len)[i]? =some (.str s):=by rw[he];simp[hi]
        rw[List.getElem?_take,List.getElem?_drop]at this;split at this
        ·exact this
        ·cases this
       obtain⟨g1,g2,g3⟩:=f5 _ _ hei;have hsz:L.sz=1:=by rw[f2];simpa[AV.cells]using g1.symm
       obtain⟨u,hu,hv⟩:=g3 0 (.str s) rfl;cases hv;have hcell:=f1;rw[hsz];have hu':c[L.o+(off+i) * 1+0]? =some (Value.string ⟨⟨s⟩⟩):=by rw[<-f2,hsz]at hu;exact hu
       have e3:L.o+off * 1+i=L.o+(off+i) * 1+0:=by omega
       rw[e3,hcell.cell];exact hu'
   ·cases he
  ·cases he
 ·cases he
theorem VRs.two{C:Cfg}{a b:AV}{vs:Array Value}(h:VRs C [a,b] vs):∃u v,vs=#[u,v]/\VR C a u/\VR C b v:=by
 obtain⟨hs,hi⟩:=h;have hs':vs.size=2:=by simpa using hs
 refine⟨vs.getD 0 undef,vs.getD 1 undef,?_,hi 0 (by simp),hi 1 (by simp)⟩;apply Array.ext (by simpa using hs');intro i h1 h2;have:i=0\/i=1:=by simp at h2;omega
 rcases this with rfl|rfl<;>simp[Array.getD,hs']
def spJoin:List AV->Heap->Option (AV×Heap)
 | [a, .str sep], h => match h.elems a with
  |some l=>match strsOf l with
   |some xs=>if Nat.ble xs.length maxL&&Nat.ble (Lib.join xs sep).length maxL then some (.str (Lib.join xs sep),h)else none
   |none=>none
  |none=>none
 |_,_=>none
theorem join_intr {P : Program} {ρ : Ren} (L : Lays.n156 P ρ) (X : Builder.Extra P ρ) (hb : ∃ fn, P.funcs[ρ.f 156]? = some fn /\ fn.body.isSome = true) : IntrFn P (ρ.f 156) spJoin := by
 intro args h v h' hg C w vs r hv;refine⟨hb,fun cs=>?_⟩;unfold spJoin at hg;split at hg
 ·rename_i a sep
  split at hg
  ·rename_i l hl
   split at hg
   ·rename_i xs hxs
    split at hg
    ·rename_i hc
     cases hg;simp only[Bool.and_eq_true,Nat.ble_eq]at hc;obtain⟨u,t,rfl,ha,ht⟩:=hv.two;cases ht;rw[strsOf_eq hxs]at hl;have hbelow:∀{w':World},Below w.heap.size w w'->w'.os=w.os/\w'.tape=w.tape/\w'.output=w.output/\w.heap.size <=w'.heap.size/\∀ β,β<w.heap.size->w'.heap[β]? =w.heap[β]?:=fun b=>⟨b.os,b.tape,b.output,b.size,b.block⟩;rcases r.strs ha hl with⟨rfl,p,c,rfl⟩|⟨B,O,c,rfl,h1,h2⟩
     ·refine lib_left r ((Any.strings_Join_none L X p c ⟨⟨sep⟩⟩ w).mono fun e w' q=>?_) cs
      obtain⟨rfl,rfl⟩:=q;exact⟨_,rfl,.str _,hbelow (Below.refl _ _)⟩
     ·by_cases hx:xs=[]
      ·subst hx
       refine lib_left r ((Any.strings_Join_none L X _ c ⟨⟨sep⟩⟩ w).mono fun e w' q=>?_) cs;obtain⟨rfl,rfl⟩:=q;exact⟨_,rfl,.str _,hbelow (Below.refl _ _)⟩
      ·have hpos:0<xs.length:=List.length_pos_iff.2 hx
       have hB:B<w.heap.size:=by
        have q:=h2 0 xs[0] (by simp[hpos]);rcases Nat.lt_or_ge B w.heap.size with h' |h'
        ·exact h'
        ·simp[World.cell?,Array.getElem?_eq_none h']at q
       have hmap:(xs.map fun s=>(⟨⟨s⟩⟩:ByteArray)).map (·.data.toList)=xs:=by simp[Function.comp_def]
       have hcall:=Any.strings_Join L X B O c (xs.map fun s=>⟨⟨s⟩⟩) ⟨⟨sep⟩⟩ w (fun j x hj=>by
         rw[List.getElem?_map,Option.map_eq_some_iff]at hj;obtain⟨s,hj,rfl⟩:=hj;exact h2 j s hj) hB (by simp only[List.length_map];unfold maxL at hc;omega) (by simpa using h1) (by rw[hmap];show (Lib.join xs sep).length <=_;unfold maxL at hc;have:=hc.2;omega)
       rw[List.length_map]at hcall;refine lib_left r (hcall.mono fun e w' q=>?_) cs;obtain⟨rfl,q⟩:=q;refine⟨_,rfl,?_,hbelow q⟩;rw[hmap];exact .str _
    ·cases hg
   ·cases hg
  ·cases hg
 ·cases hg
end Go.AM
namespace Go.AM
open Go Go.Proofs Go.Shelf Go.RowKit
variable[Keep]
def spL(b:UInt8):List UInt8->List (List UInt8)
 | []=>[[]]
 |c::r=>if c=b then []::spL b r else match spL b r with| []=>[[c]]|p::q=>(c::p)::q
theorem spL_no{b:UInt8}:∀{s:List UInt8},s.count b=0->spL b s=[s]:=by
 intro s;induction s with
 |nil=>intro _;rfl
 |cons c r ih=>
  intro h;rw[List.count_cons]at h;have hc:¬c=b:=fun e=>by subst e;simp at h
  have hr:r.count b=0:=by omega
  simp only[spL,if_neg hc,ih hr]
theorem splitK_one(b:UInt8):∀(s:List UInt8) (k:Nat),s.count b=k->Lib.splitK [b] 0 k s=spL b s:=by
 intro s;induction s with
 |nil=>
  intro k h;simp at h;subst h;rfl
 | cons c r ih =>
  intro k h;rw[List.count_cons]at h;by_cases e:c=b
  ·subst e
   simp only[beq_self_eq_true,if_true]at h;obtain⟨j,rfl⟩:∃j,k=j+1:=⟨k - 1,by omega⟩;have hi:Lib.index (c::r) [c]=0:=by rw[Lib.index_one];simp[Lib.indexByte]
   have:=ih j (by omega);simp only[Lib.splitK,hi,spL,if_true];simp[this]
  ·have hb:(c==b)=false:=by simpa using e
   simp only[hb]at h;have hk:r.count b=k:=by simpa using h
   cases k with
   |zero=>
    rw[Lib.splitK,spL,if_neg e,spL_no hk]
   | succ j =>
    have hi:Lib.index (c::r) [b]=if Lib.indexByte r b== -1 then -1 else Lib.indexByte r b+1:=by rw[Lib.index_one];simp[Lib.indexByte,e]
    have hge:=Lib.indexByte_ge r b;have ir:Lib.index r [b]=Lib.indexByte r b:=Lib.index_one _ _;have hne:¬Lib.indexByte r b= -1:=fun q=>by
     have:=Lib.indexByte_none q;have hm:b∈r:=List.count_pos_iff.1 (by omega);obtain⟨i,hi2,h3⟩:=List.mem_iff_getElem.1 hm;exact this i (by rw[List.getElem?_eq_getElem hi2,h3])
    have h2:=ih (j+1) hk;have hq:(Lib.indexByte r b== -1)=false:=by simpa using hne
    rw[hq]at hi;simp only[Bool.false_eq_true,if_false]at hi;have hq2:(Lib.indexByte r b+1== -1)=false:=by simp;omega
    simp only[Lib.splitK,ir,hq,Bool.false_eq_true,if_false]at h2;simp only[Lib.splitK,hi,hq2,Bool.false_eq_true,if_false,spL,if_neg e,<-h2];obtain⟨n,hn⟩:∃n:Nat,Lib.indexByte r b=n:=⟨(Lib.indexByte r b).toNat,by omega⟩;rw[hn];have e1:((n:Int)+1).toNat=n+1:=by omega
    simp[e1]
theorem split_one{P:Program}{ρ:Ren}(L:Lays.n146 P ρ)(hi9:(P.info? (ρ.t 9)).map (fun i=>(i.zero,i.size,i.bytes))=some (some (.string ByteArray.empty),1,16))(s:ByteArray)(c:UInt8)(w:World)(hs:s.size<4294967281) :
  Calls P (ρ.f 146) #[.string s,.string ⟨#[c]⟩] w fun e w'=>
   e= .returned (.slice (some ⟨w.heap.size,0,none⟩) (Lib.countB s ⟨#[c]⟩+1) (Lib.countB s ⟨#[c]⟩+1))/\w'=w.alloc (.cells ((Lib.splitB ⟨#[c]⟩ 0 (Lib.countB s ⟨#[c]⟩) s).map Value.string).toArray (ρ.t 9)):=by
 have h1:1 <=(⟨#[c]⟩:ByteArray).size:=Nat.le_refl 1;have hle:=Lib.countB_le ⟨#[c]⟩ h1 s.size s (Nat.le_refl _);have hlen:=Lib.splitB_all ⟨#[c]⟩ h1 0 _ s rfl;have hC:Calls P (ρ.f 138) #[.string s,.string ⟨#[c]⟩] w fun e w'=>e= .returned (.int .i64 (Lib.countB s ⟨#[c]⟩))/\w'=w:=by
  refine(Any.strings_Count_one { L with } s c w).mono fun e w' ⟨he,hw⟩=>⟨?_,hw⟩
  rw[he];show _=Ending.returned (Value.int .i64 ((Lib.count s.data.toList [c]:Nat):Int));rw[Lib.count_one];rfl
 have c0:=Any.strings_genSplit_core { L with } hi9 s ⟨#[c]⟩ 0 (-1) (Lib.countB s ⟨#[c]⟩+1) w hs h1 (Nat.zero_le _)
  (fun x d hx=>(Any.strings_Index_one { L with } x c _).mono fun e w' ⟨he,hw⟩=>⟨by
   rw[he,show Lib.indexB x ⟨#[c]⟩=Lib.indexByte x.data.toList c from Lib.index_one _ _],hw⟩)
  hC (by decide) (by decide) (by rw[if_pos (by decide)];omega)
 rw[Nat.add_sub_cancel,hlen]at c0;have e2:Lib.cellsOf (Lib.splitB ⟨#[c]⟩ 0 (Lib.countB s ⟨#[c]⟩) s) (Lib.countB s ⟨#[c]⟩+1)=((Lib.splitB ⟨#[c]⟩ 0 (Lib.countB s ⟨#[c]⟩) s).map Value.string).toArray:=by rw[<-hlen];exact Lib.cellsOf_full _
 rw[e2]at c0;have t3:=L.t3;have t9:=L.t9;have t31:=L.t31;have a3:=L.a3;have a9:=L.a9;have a31:=L.a31;have z3:=L.z3;have v3:=L.v3;have z9:=L.z9;have v9:=L.v9;have z31:=L.z31;have v31:=L.v31;have e221:∀args w,(callFunc (ρ.f 221) args).run P w= .ok (.enter (ρ.f 221) args) w:=enters_of L.f221 (by kernel_rfl) rfl
 go_enter L.f146,Body.n146_ntmps ρ
 go_wp2_with (go_at_fn (ρ.f 221);refine c0.mono ?_;rintro e w' ⟨rfl,hw⟩;rw[hw])
 go_ret
 exact⟨rfl,rfl⟩
theorem lib_strs{P:Program}{f:FuncId}{C:Cfg}{h:Heap}{w:World}{vs:Array Value}(r:WR C h w)(xs:List (List UInt8))(T:TypeId)
  (hc:Calls P f vs w fun e w'=>e= .returned (.slice (some ⟨w.heap.size,0,none⟩) xs.length xs.length)/\w'=w.alloc (.cells ((xs.map fun s=>Value.string ⟨⟨s⟩⟩).toArray) T)) (cs:List Frame) :
  Left P f C h w (lone (Frame.enter P f vs .normal) cs w) cs (.ret (.vslice (xs.map AV.str)) h none):=by
 obtain⟨e,w',fr,⟨rfl,rfl⟩,hst,hfn,hlv⟩:=hc cs;have hsame:∀ β,β<w.heap.size->(w.alloc (.cells ((xs.map fun s=>Value.string ⟨⟨s⟩⟩).toArray) T)).heap[β]? =w.heap[β]?:=fun β hb=>by
  simp only[World.alloc,Array.getElem?_push];rw[if_neg (by omega)]
 generalize hw':w.alloc (.cells ((xs.map fun s=>Value.string ⟨⟨s⟩⟩).toArray) T)=w' at *;have hcell:∀x u,w.cell? x=some u->w'.cell? x=some u:=by
  intro x u hx;have hlt:x.block<w.heap.size:=by
   rcases Nat.lt_or_ge x.block w.heap.size with h|h
   ·exact h
   ·simp[World.cell?,Array.getElem?_eq_none h]at hx
  unfold World.cell? at hx ⊢;rw[hsame _ hlt];exact hx
 have hnew:∀(i:Nat) (s:List UInt8),xs[i]? =some s->w'.cell? ⟨w.heap.size,i,none⟩=some (.string ⟨⟨s⟩⟩):=fun i s hi=>by
  rw[<-hw'];rw[World.cell?_alloc_at _ _ _ _ rfl,List.getElem?_toArray,List.getElem?_map,hi];rfl
 let D:Cfg:=⟨C.mu,fun x=>if x.block=w.heap.size then w'.cell? x else C.sig x⟩
 have hDs:∀x v,C.sig x=some v->D.sig x=some v:=fun x v e=>by
  have hb:=WR.sig_lt (F:=Fr.mk 0 false .nil .nil h [] none) r e;show (if x.block=w.heap.size then w'.cell? x else C.sig x)=some v
  rw[if_neg (by omega)];exact e
 have hD:C.le D:=⟨fun _ _ e=>e,hDs⟩;have hbase:Base C w':=r.base.on (fun _ _ e=>e) (fun x v e=>hsame _ (WR.sig_lt (F:=Fr.mk 0 false .nil .nil h [] none) r e));have hsz:w.heap.size <=w'.heap.size:=by rw[<-hw'];simp
 refine⟨D,w',fr,_,hst,hlv,hfn,?_,⟨fun x v e=>?_,fun id blk e=>?_,r.inj,fun id blk L1 x v e k ks=>?_,r.fresh,hbase.on hDs (fun _ _ _=>rfl)⟩,?_⟩
 ·have:=VR.vslice (C:=D) (l:=xs.map AV.str) (sz:=1) (b:=w.heap.size) (o:=0) (cap:=xs.length) (fun i _=>.string ⟨⟨xs.getD i []⟩⟩) (by simp) (fun e he=>by
   obtain⟨s,_,rfl⟩:=List.mem_map.1 he;rfl) (fun i j hi hj=>?_) (fun i j hi hj=>?_) (fun e he c hc=>by
   obtain⟨s,_,rfl⟩:=List.mem_map.1 he;simp only[AV.cells,List.mem_singleton]at hc;subst hc;rfl)
  ·rw[List.length_map]at this
   exact this
  ·have hj0:j=0:=by omega
   subst hj0;rw[List.length_map]at hi;show (if w.heap.size=w.heap.size then w'.cell? _ else _)=_
   rw[if_pos rfl];have:=hnew i xs[i] (List.getElem?_eq_getElem hi);simp only[Nat.mul_one,Nat.zero_add,Nat.add_zero];rw[this];simp[List.getD,hi]
  ·have hj0:j=0:=by omega
   subst hj0;rw[List.length_map]at hi;have e1:((xs.map AV.str).getD i .junk).cells.getD 0 .junk= .str (xs.getD i []):=by simp[List.getD,hi,AV.cells]
   rw[e1];exact .str _
 ·have e:(if x.block=w.heap.size then w'.cell? x else C.sig x)=some v:=e
  by_cases hb:x.block=w.heap.size
  ·rw[if_pos hb]at e
   exact e
  ·rw[if_neg hb]at e
   exact hcell _ _ (r.sig _ _ e)
 ·obtain⟨L',k1,k2⟩:=r.blk id blk e
  exact⟨L',k1,k2.same hD (hsame _ k2.lt)⟩
 ·have ks:(if x.block=w.heap.size then w'.cell? x else C.sig x)=some v:=ks
  obtain⟨L2,k1,k2⟩:=r.blk id blk e;rw[k]at k1;cases k1;have:=k2.lt;by_cases hb:x.block=w.heap.size
  ·omega
  ·rw[if_neg hb]at ks
   exact r.apart _ _ _ _ _ e k ks
 ·refine { le:=hD,os:=by rw[<-hw'];rfl,tape:=by rw[<-hw'];rfl,output:=by rw[<-hw'];rfl,size:=hsz,same:=fun β hb _ _=>hsame β hb,live:=fun β hb l=>.inl l,own:=fun _ _ o=>o.elim,sig:=fun x u hb e=>.inl ?_,next:=Nat.le_refl _ }
  have e:(if x.block=w.heap.size then w'.cell? x else C.sig x)=some u:=e
  rw[if_neg (by omega)]at e;exact e
def spSplit:List AV->Option AV
 | [.str s,.str [c]]=>if Nat.ble s.length maxL then some (.vslice ((spL c s).map AV.str))else none
 |_=>none
theorem split_intr{P:Program}{ρ:Ren}(L:Lays.n146 P ρ)(hi9:(P.info? (ρ.t 9)).map (fun i=>(i.zero,i.size,i.bytes))=some (some (.string ByteArray.empty),1,16))(hb:∃fn,P.funcs[ρ.f 146]? =some fn/\fn.body.isSome=true):IntrFn P (ρ.f 146) (atOnce spSplit):=by
 intro args h v h' hg C w vs r hv;refine⟨hb,fun cs=>?_⟩;unfold atOnce spSplit at hg;split at hg
 ·rename_i v0 hsp
  split at hsp
  ·rename_i s c
   split at hsp
   ·rename_i hc
    cases hsp;cases hg;rw[Nat.ble_eq]at hc;obtain⟨u,t,rfl,ha,ht⟩:=hv.two;cases ha;cases ht;refine lib_strs r (spL c s) (ρ.t 9) ?_ cs;refine(split_one L hi9 ⟨⟨s⟩⟩ c w (by show s.length<_;unfold maxL at hc;omega)).mono fun e w' q=>?_;have hcnt:Lib.countB ⟨⟨s⟩⟩ ⟨#[c]⟩=s.count c:=Lib.count_one c s;have hdat:=Lib.splitB_data ⟨#[c]⟩ 0 (Lib.countB ⟨⟨s⟩⟩ ⟨#[c]⟩) ⟨⟨s⟩⟩;have hdat2:(Lib.splitB ⟨#[c]⟩ 0 (Lib.countB ⟨⟨s⟩⟩ ⟨#[c]⟩) ⟨⟨s⟩⟩).map (·.data.toList)=spL c s:=hdat.trans (splitK_one c s _ hcnt.symm);have hlen:=congrArg List.length hdat2;rw[List.length_map,Lib.splitB_all ⟨#[c]⟩ (Nat.le_refl 1) 0 _ ⟨⟨s⟩⟩ rfl]at hlen;have hval:(Lib.splitB ⟨#[c]⟩ 0 (Lib.countB ⟨⟨s⟩⟩ ⟨#[c]⟩) ⟨⟨s⟩⟩).map Value.string=(spL c s).map fun s=>Value.string ⟨⟨s⟩⟩:=by
     rw[<-hdat2,List.map_map];rfl
    rw[hlen,hval]at q;exact q
   ·cases hsp
  ·cases hsp
 ·cases hg
end Go.AM
namespace Go.TX
open Go Go.AM
variable[Keep]
theorem take_next{α:Type}{l:List α}{k:Nat}{a:α}(h:l[k]? =some a):l.take (k+1)=l.take k++[a]:=by
 obtain⟨h1,h2⟩:=List.getElem?_eq_some_iff.1 h;rw[List.take_add_one,h];rfl
theorem dig_small{u:Nat}(h:u<10):digF 20 u=[UInt8.ofNat (48+u)]:=by
 show (if Nat.blt u 10 then _ else _)=_
 rw[if_pos (by rw[Nat.blt_eq];exact h)]
theorem dig_step{u:Nat}(h:10 <=u)(hu:u<10 ^ 18):digF 20 u=digF 20 (u / 10)++[UInt8.ofNat (48+u % 10)]:=by
 have e:digF 20 u=digF 19 (u / 10)++[UInt8.ofNat (48+u % 10)]:=by
  show (if Nat.blt u 10 then _ else _)=_
  rw[if_neg (by rw[Nat.blt_eq];omega)]
 rw[e,digF_ok 19 (u / 10) (by omega) (by omega),digF_ok 20 (u / 10) (by omega) (by omega)]
theorem digF_len:∀(f n:Nat),(digF f n).length <=f:=by
 intro f;induction f with
 |zero=>intro n;exact Nat.le_refl _
 | succ f ih =>
  intro n;unfold digF;split
  ·simp
  ·rw[List.length_append]
   have:=ih (n / 10);simp only[List.length_cons,List.length_nil];omega
end Go.TX
