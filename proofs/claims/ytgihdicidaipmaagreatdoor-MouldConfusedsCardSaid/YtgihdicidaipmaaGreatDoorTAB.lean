/-
    A part of the proof: contracts of functions.
-/
import Derived.Test.YtgihdicidaipmaaGreatDoorTAA
import Derived.Laws.Append
import Derived.Laws.AppendOwn
import Derived.Lib.ConvBytes
import Derived.RangeFuncIn
import Derived.Defers
import Derived.RangeFuncLeaves
set_option linter.unusedSimpArgs false
set_option linter.unusedVariables false
set_option linter.unusedSectionVars false
namespace Go.AM
open Go
variable[Keep]
def Ran(P:Program)(ρ:Operand->Value)(o:Oper)(w:World)(u:Value)(w':World):Prop:=
 (execOp ρ o).run P w= .ok (.value u) w'\/(u=undef/\(execOp ρ o).run P w= .ok .skip w')
def boxy:Op->Bool
 | .alloc _| .box _ _=>true
 |_=>false
def Eff(P:Program)(C:Cfg)(lam:Nat->Option Nat)(ms:List Nat)(F:Fr)(b:Frame)(a:Act)(w:World)(cs:List Frame)(o:Oper)(v:AV)(F':Fr):Prop:=
 ∃C' lam' u w',Ran P a.eval o w u w'/\SR C' lam' F'.lm v u/\St C' lam' ms F' b a w' cs/\Ext C F.hp (Own lam ms) w C' F'.hp (Own lam' ms) w'/\(boxy o.op=false->lam'=lam)
section
variable{P:Program}{w w':World}{C:Cfg}{lam:Nat->Option Nat}{ms:List Nat}{F:Fr}{b:Frame}{a:Act}{cs:List Frame}
theorem okO_val{r:Option (AV×Fr)}{v:AV}{F':Fr}(h:okO r= .val v F'):r=some (v,F'):=by
 unfold okO at h;split at h
 ·cases h;rfl
 ·cases h
theorem okO_pan{r:Option (AV×Fr)}{v:AV}{F':Fr}(h:okO r= .pan v F'):False:=by
 unfold okO at h;split at h<;>cases h
theorem newBox_ok{X:Ctx}(s:St C lam ms F b a w cs){o:Oper}{d:Option Tmp}{v r:AV}{F':Fr}{u:Value}{T:TypeId}(h:newBox X F d v=some (r,F'))(hv:VR C v u)(hbx:boxy o.op=true)
  (hr:Ran P a.eval o w (.pointer (some ⟨w.heap.size,0,none⟩)) { w with heap:=w.heap.push (.cells u.cells T) }):Eff P C lam ms F b a w cs o r F':=by
 unfold newBox at h;split at h
 ·cases h
 ·rename_i t
  split at h
  ·cases h
  ·rename_i ht
   have ht':isTuple v=false:=by simpa using ht
   obtain⟨k1,k2⟩:=hv.cells (not_tuple ht');split at h
   ·cases h
    let L:Loc:=⟨w.heap.size,0,0,0⟩
    have hle:=muPush_le s.wr L;obtain⟨s',e'⟩:=s.fresh (w':={ w with heap:=w.heap.push (.cells u.cells T) }) (o:=.cells u.cells T) (blk:=.var v.cells) (L:=L) rfl rfl rfl rfl rfl
     ⟨u.cells,⟨T,0,0,by simp[L],.inl (Nat.le_refl _)⟩,rfl,k1.mono hle,k2⟩
    exact⟨_,_,_,_,hr,SR.of (VR.ptr (L:=L) (by simp[muPush])),s',e',fun h=>absurd (hbx.symm.trans h) (by simp)⟩
   ·cases h
    obtain⟨k3,k4,k5⟩:=s.newBox (t:=t) (T:=T) k1 k2;exact⟨_,_,_,_,hr,k3,k4,k5,fun h=>absurd (hbx.symm.trans h) (by simp)⟩
theorem St.allocE{X:Ctx}(s:St C lam ms F b a w cs){o:Oper}{t:TypeId}{v:AV}{F':Fr}(ho:o.op= .alloc t)(h:F.allocE X o.dst t= .val v F'):Eff X.P C lam ms F b a w cs o v F':=by
 unfold Fr.allocE at h;split at h
 ·rename_i z hz
  obtain⟨zv,z1,z2,_⟩:=run_zero (P:=X.P) (w:=w) (C:=C) hz;refine newBox_ok (T:=t) s (okO_val h) z2 (by rw[ho];rfl) (.inl ?_);simp[execOp,ho,Instr.alloc,z1,newVar,newRow]
 ·cases h
theorem St.boxE{X:Ctx}(s:St C lam ms F b a w cs){o:Oper}{t:TypeId}{x:Operand}{v:AV}{F':Fr}(ho:o.op= .box t x)(h:F.boxE X o.dst x= .val v F'):Eff X.P C lam ms F b a w cs o v F':=by
 unfold Fr.boxE at h;split at h
 ·rename_i y hy
  refine newBox_ok (T:=t) s (okO_val h) (s.opv hy) (by rw[ho];rfl) (.inl ?_);simp[execOp,ho,Instr.box,newVar,newRow]
 ·cases h
theorem run_storeVar{t:TypeId}{ag:Bool}{n B O:Nat}{c:Array Value}{v:Value}(hl:lay P t=some (ag,n))(hn:v.cells.size=n)(hc:isCells w B c)(hle:O+n <=c.size)(h1:∀x∈v.cells.toList,oneV x=true) :
  ∃w',(storeVar t ⟨B,O,none⟩ v).run P w= .ok () w'/\isCells w' B (setMany c O v.cells.toList)/\w'.heap.size=w.heap.size/\(∀ β,β≠B->w'.heap[β]? =w.heap[β]?)/\w'.os=w.os/\w'.tape=w.tape/\w'.output=w.output:=by
 obtain⟨_,k2,_⟩:=run_lay (P:=P) (w:=w) hl;have hll:v.cells.toList.length=n:=by simpa using hn
 obtain⟨w',e1,e2,e3⟩:=run_storeCells (P:=P) v.cells.toList 0 w c hc (by rw[Nat.add_zero,hll];exact hle) h1;refine⟨w',?_,by simpa using e2,e3⟩;simp only[storeVar,Sem.run_bind,k2,Result.andThen_ok,hn,ne_eq,not_true_eq_false,if_false,e1,Sem.run_pure]
theorem asElem_cells{e:AV}{q:List AV}(hl:q.length=e.cells.length)(h1:∀y∈q,y.one=true):(asElem (isAggV e) q).cells=q:=by
 have key:∀q:List AV,q.length=1->(∀y∈q,y.one=true)->(asElem false q).cells=q:=fun q h1 h2=>by
  obtain⟨y,rfl⟩:=List.length_eq_one_iff.1 h1;have:=h2 y (by simp);cases y<;>first|rfl|simp[AV.one]at this
 cases e with
 |agg l=>simp[asElem,isAggV,AV.cells]
 |_=>exact key q hl h1
theorem St.write (s : St C lam ms F b a w cs) {p : AV} {pv : Value} {F' : Fr} {t : TypeId} {ag : Bool} {x : AV} {xv : Value} (hp : SR C lam F.lm p pv) (hl : lay P t = some (ag, x.cells.length)) (hx : VR C x xv) (ht : isTuple x = false)
  (h:F.write p x.cells=some F') :
  ∃A w',pv= .pointer (some A)/\(storeVar t A xv).run P w= .ok () w'/\St C lam ms F' b a w' cs/\Ext C F.hp (Own lam ms) w C F'.hp (Own lam ms) w':=by
 obtain⟨k1,k2⟩:=hx.cells (not_tuple ht);have hone:∀y∈xv.cells.toList,oneV y=true:=k1.one_all k2;have hsz:xv.cells.size=x.cells.length:=k1.1;unfold Fr.write at h;split at h
 ·rename_i t' g off
  split at h
  ·rename_i g' cells hg
   split at h
   ·rename_i hh
    obtain⟨rfl,hle⟩:=hh;cases h;obtain⟨g2,cs2,β,e1,_,rfl,e2⟩:=hp;rw[hg]at e1;cases e1;have e3:=e2 rfl;obtain⟨g3,cells3,c,f1,f2,f3,f4⟩:=s.box t' β e3;rw[hg]at f1;cases f1;obtain⟨w',r1,r2,r3,r4,r5,r6,r7⟩:=run_storeVar (P:=P) (w:=w) (O:=off) hl hsz f2 (by rw[f3.1];exact hle) hone;obtain⟨s',e'⟩:=s.writeBox (w':=w') hg e3 (VRs.splice f3 k1 hle) (one_splice f4 k2) r2 r3 r4 r5 r6 r7;exact⟨_,w',rfl,r1,s',e'⟩
   ·cases h
  ·cases h
 ·rename_i id off
  split at h
  ·rename_i cells hg
   split at h
   ·rename_i hle
    cases h;obtain⟨L,e1,c,f1,f2,f3,f4⟩:=s.wr.blk id _ hg;cases hp with
    |ptr e2=>
     rw[e1]at e2;cases e2;rw[f2,Nat.zero_add];obtain⟨w',r1,r2,r3,r4,r5,r6,r7⟩:=run_storeVar (P:=P) (w:=w) (O:=off) hl hsz f1 (by rw[f3.1];exact hle) hone;obtain⟨s',e'⟩:=s.turn (WR.put s.wr (blk':=.var (Go.AM.splice cells off x.cells)) hg e1 r3 r4 ⟨_,r2,f2,VRs.splice f3 k1 hle,one_splice f4 k2⟩ r5 r6 r7);exact⟨_,w',rfl,r1,s',e'⟩
   ·cases h
  ·cases h
 ·rename_i id sz i j
  split at h
  ·rename_i sz' el hg
   split at h
   ·rename_i hszz
    subst hszz;split at h
    ·rename_i e he
     split at h
     ·rename_i hle
      cases h;obtain⟨L,e1,c,f1,f2,f3,f4,f5⟩:=s.wr.blk id _ hg;cases hp with
      | eptr e2 =>
       rw[e1]at e2;cases e2;obtain⟨g1,g2,g3⟩:=f5 i e he;have hi:i<el.length:=by
        rcases Nat.lt_or_ge i el.length with h' |h'
        ·exact h'
        ·rw[List.getElem?_eq_none h']at he;cases he
       have hrow:(i+1) * sz <=el.length * sz:=Nat.mul_le_mul_right _ hi;rw[Nat.add_mul,Nat.one_mul]at hrow;have hin:L.o+i * sz+j+x.cells.length <=c.size:=by omega
       obtain⟨w',r1,r2,r3,r4,r5,r6,r7⟩:=run_storeVar (P:=P) (w:=w) (O:=L.o+i * sz+j) hl hsz f1 hin hone;have hcells:(asElem (isAggV e) (Go.AM.splice e.cells j x.cells)).cells=Go.AM.splice e.cells j x.cells:=by
        exact asElem_cells (splice_length hle) (one_splice g2 k2)
       have hbr:BR C w' L (.rw sz (el.set i (asElem (isAggV e) (Go.AM.splice e.cells j x.cells)))):=by
        refine⟨_,r2,f2,by rw[setMany_size];exact f3,by rw[setMany_size];simpa using f4,fun i' e' he'=>?_⟩;rw[List.getElem?_set]at he';have hul:xv.cells.toList.length=x.cells.length:=by simpa using hsz
        by_cases hii:i=i'
        ·subst hii
         simp[hi]at he';subst he';rw[hcells];refine⟨by rw[splice_length hle];exact g1,one_splice g2 k2,fun j' y hy=>?_⟩;rw[splice_get hle]at hy;rw[setMany_get _ _ _ _ (by rw[hul];exact hin),hul];by_cases hjj:j <=j'/\j'<j+x.cells.length
         ·rw[if_pos hjj]at hy
          rw[if_pos (by omega)];obtain⟨v,hv,hr⟩:=k1.get hy;exact⟨v,by rw[show L.o+i * sz+j' - (L.o+i * sz+j)=j' - j from by omega];simpa using hv,hr⟩
         ·rw[if_neg hjj]at hy
          rw[if_neg (by omega)];exact g3 j' y hy
        ·rw[if_neg hii]at he'
         obtain⟨q1,q2,q3⟩:=f5 i' e' he';refine⟨q1,q2,fun j' y hy=>?_⟩;have hj':j'<sz:=by
          rw[<-q1];rcases Nat.lt_or_ge j' e'.cells.length with h' |h'
          ·exact h'
          ·rw[List.getElem?_eq_none h']at hy;cases hy
         rw[setMany_get _ _ _ _ (by rw[hul];exact hin),hul,if_neg ?_]
         ·exact q3 j' y hy
         ·rcases Nat.lt_or_gt_of_ne hii with hlt|hgt
          ·have:(i+1) * sz <=i' * sz:=Nat.mul_le_mul_right _ hlt
           rw[Nat.add_mul,Nat.one_mul]at this;omega
          ·have:(i'+1) * sz <=i * sz:=Nat.mul_le_mul_right _ hgt
           rw[Nat.add_mul,Nat.one_mul]at this;omega
       obtain⟨s',e'⟩:=s.turn (WR.put s.wr hg e1 r3 r4 hbr r5 r6 r7);exact⟨_,w',rfl,r1,s',e'⟩
     ·cases h
    ·cases h
   ·cases h
  ·cases h
 ·cases h
theorem VRundef(C:Cfg):VR C undefA undef:=.tuple rfl (fun i hi=>by simp at hi)
theorem St.storeE(s:St C lam ms F b a w cs){o:Oper}{t:TypeId}{x y:Operand}{v:AV}{F':Fr}(ho:o.op= .store t x y)(h:F.storeE P t x y= .val v F'):Eff P C lam ms F b a w cs o v F':=by
 unfold Fr.storeE at h;split at h
 ·rename_i p q hp hq
  split at h
  ·rename_i ag n hl
   split at h
   ·rename_i hh
    obtain⟨rfl,ht⟩:=hh;split at h
    ·rename_i F1 hw
     cases h;obtain⟨A,w',e1,e2,e3,e4⟩:=s.write (P:=P) (s.opd hp) hl (s.opv hq) ht hw;refine⟨C,lam,undef,w',.inr ⟨rfl,?_⟩,SR.of (VRundef C),e3,e4,fun _=>rfl⟩;simp[execOp,ho,Instr.storeAt,Instr.sureAddr,e1,e2]
    ·cases h
   ·cases h
  ·cases h
 ·cases h
end
end Go.AM
namespace Go.AM
open Go
variable[Keep]
section
variable{P:Program}{w w':World}{C:Cfg}{lam:Nat->Option Nat}{ms:List Nat}{F:Fr}{b:Frame}{a:Act}{cs:List Frame}
theorem FlatR.mono{C D:Cfg}(hle:C.le D){m o:Nat}{elems:List AV}{c:Array Value}(h:FlatR C m elems c o):FlatR D m elems c o:=fun i e he=>by
 obtain⟨g1,g2,g3⟩:=h i e he;exact⟨g1,g2,fun j x hx=>let ⟨v,hv,hr⟩:=g3 j x hx;⟨v,hv,hr.mono hle⟩⟩
theorem St.newRow(s:St C lam ms F b a w cs){o:Oper}{elems:List AV}{c:Array Value}{T:TypeId}{sz cap:Nat}(hf:FlatR C sz elems c 0)(hc:cap * sz <=c.size)(hl:elems.length <=cap)
  (hw:w'.heap=w.heap.push (.cells c T)) (hos:w'.os=w.os) (htp:w'.tape=w.tape) (hout:w'.output=w.output)
  (hr:Ran P a.eval o w (.slice (some ⟨w.heap.size,0,none⟩) elems.length cap) w'):Eff P C lam ms F b a w cs o (.row F.hp.next 0 elems.length) { F with hp:=F.hp.new (.rw sz elems) }:=by
 let L:Loc:=⟨w.heap.size,0,sz,c.size⟩
 have hle:=muPush_le s.wr L;have hmul:elems.length * sz <=cap * sz:=Nat.mul_le_mul_right _ hl;obtain⟨s',e'⟩:=s.fresh (o:=.cells c T) (blk:=.rw sz elems) (L:=L) hw hos htp hout rfl
  ⟨c,⟨T,0,0,by rw[hw];simp[L],.inl (Nat.le_refl _)⟩,rfl,rfl,by simp[L];omega,hf.mono hle⟩
 exact⟨_,_,_,_,hr,SR.of (VR.row (L:=L) _ (by simp[muPush]) hl (.inr (by simp[L])) (by simp[L];exact hc)),s',e',fun _=>rfl⟩
theorem St.rowE(s:St C lam ms F b a w cs){o:Oper}{t:TypeId}{n:Nat}{ps:Array (Nat×Operand)}{v:AV}{F':Fr}(ho:o.op= .buildSlice t n ps)(h:F.rowE P t n ps.toList= .val v F'):Eff P C lam ms F b a w cs o v F':=by
 unfold Fr.rowE at h;split at h
 ·rename_i e l he hb
  cases h;obtain⟨c,e2,he2,hrun,hv⟩:=buildSlice_ok (P:=P) s hb;rw[he]at he2;cases he2;rcases hv with⟨hv,_⟩|⟨elems,hv,hl,hf,hsz⟩
  ·cases hv
  ·cases hv
   refine s.newRow (w':={ w with heap:=w.heap.push (.cells c e) }) (T:=e) (cap:=n) hf (by omega) (by omega) rfl rfl rfl rfl (.inl ?_)
   simp only[execOp,ho,Sem.run_bind,hrun,Result.andThen_ok,Sem.run_pure,hl]
 ·cases h
theorem St.mapE(s:St C lam ms F b a w cs){o:Oper}{t:TypeId}{r:Option Operand}{v:AV}{F':Fr}(ho:o.op= .makeMap t r)(h:F.mapE r= .val v F'):Eff P C lam ms F b a w cs o v F':=by
 unfold Fr.mapE at h;split at h
 ·cases h
  let L:Loc:=⟨w.heap.size,0,0,0⟩
  obtain⟨s',e'⟩:=s.fresh (w':={ w with heap:=w.heap.push (.map #[] 0) }) (o:=.map #[] 0) (blk:=.mp []) (L:=L) rfl rfl rfl rfl rfl ⟨#[],0,by simp[L],rfl,fun i k v h=>by simp at h⟩
  refine⟨_,_,_,_,.inl ?_,SR.of (VR.map (L:=L) (by simp[muPush])),s',e',fun _=>rfl⟩;simp[execOp,ho,Instr.makeMap,L]
 ·cases h
theorem wrap64{n:Int}(h0:0 <=n)(h1:n <=16777216):IntKind.i64.wrap n=n:=by
 simp[IntKind.wrap,IntKind.bits,IntKind.signed];omega
theorem St.makeSliceE(s:St C lam ms F b a w cs){o:Oper}{t:TypeId}{l c:Operand}{v:AV}{F':Fr}(ho:o.op= .makeSlice t l c)(h:F.makeSliceE P t l c= .val v F'):Eff P C lam ms F b a w cs o v F':=by
 unfold Fr.makeSliceE at h;split at h
 ·rename_i e k1 n k2 m he hl hc
  split at h
  ·rename_i z i hz hi
   split at h
   ·rename_i hh
    obtain⟨h0,h1,h2,h3,h4,h5,h6⟩:=hh;cases h;obtain⟨zv,z1,z2,i',hi',_⟩:=run_zero (P:=P) (w:=w) (C:=C) hz;have hs:(sizeOf e).run P w= .ok (szT P e) w:=by simp[sizeOf,run_info hi,szT,hi]
    have el:=(s.opv hl).int_inv;have ec:=(s.opv hc).int_inv;simp only[most]at h2;have hm:m <=16777216:=h2;have w1:=wrap64 h0 (by omega);have w2:=wrap64 (n:=m) (by omega) hm;have hbm:(i.bytes:Int) * m <=281474976710656:=by
     have:(i.bytes:Int) * m <=65536 * 16777216:=Int.mul_le_mul (by omega) hm (by omega) (by omega);omega
    have hf:=FlatR.zeros (n:=m.toNat) z2 h5 h4 h6;have hf':FlatR C (szT P e) (List.replicate n.toNat z) ((Array.range (m.toNat * szT P e)).map (zv.cells[· % zv.cells.size]!)) 0:=fun i' e' he'=>by
     refine hf i' e' ?_;rw[List.getElem?_replicate]at he' ⊢;split at he'
     ·rw[if_pos (by omega)];exact he'
     ·cases he'
    have hlen:(List.replicate n.toNat z).length=n.toNat:=by simp
    have:=s.newRow (P:=P) (o:=o) (w':={ w with heap:=w.heap.push (.cells ((Array.range (m.toNat * szT P e)).map (zv.cells[· % zv.cells.size]!)) e) }) (T:=e) (cap:=m.toNat) hf' (by simp) (by simp;omega) rfl rfl rfl rfl (by
     rw[hlen];refine .inl ?_;have t1:¬(m<0):=by omega
     have t2:¬(281474976710656<(i.bytes:Int) * m):=by omega
     have t3:¬(n<0):=by omega
     have t4:¬(m<n):=by omega
     have hai:∀k n,(asInt (.int k n)).run P w= .ok n w:=fun k n=>by simp[asInt,asIntOf]
     simp only[execOp,ho,Instr.makeSlice,Sem.run_bind,run_und (elemT_und he),Result.andThen_ok,el,ec,hai,Sem.run_pure,run_info hi,w1,w2];simp only[t1,t2,t3,t4,decide_false,Bool.or_false,Bool.or_self,Bool.false_eq_true,if_false,Int.reducePow,gt_iff_lt,run_askRoom,Sem.run_bind,Result.andThen_ok,hs];by_cases hz0:m.toNat * szT P e=0
     ·have hm0:m.toNat=0:=by rcases Nat.mul_eq_zero.1 hz0 with h|h;exact h;exact absurd h h6
      simp[hm0,Go.newRow,show Array.range 0=#[] from rfl]
     ·simp only[hz0,if_false,Sem.run_bind,z1,Result.andThen_ok,Sem.run_pure]
      simp[Go.newRow])
    rw[hlen]at this;exact this
   ·cases h
  ·cases h
 ·cases h
theorem St.rangeE(s:St C lam ms F b a w cs){o:Oper}{t:TypeId}{x:Operand}{v:AV}{F':Fr}(ho:o.op= .range t x)(h:F.rangeE P t x= .val v F'):Eff P C lam ms F b a w cs o v F':=by
 unfold Fr.rangeE at h;split at h
 ·rename_i st hu hx
  cases h
  let L:Loc:=⟨w.heap.size,0,0,0⟩
  have ex:=(s.opv hx).str_inv;obtain⟨s',e'⟩:=s.fresh (w':={ w with heap:=w.heap.push (.stringIter ⟨⟨st⟩⟩ 0) }) (o:=.stringIter ⟨⟨st⟩⟩ 0) (blk:=.iter st 0) (L:=L) rfl rfl rfl rfl rfl ⟨by simp[L],rfl⟩
  refine⟨_,_,_,_,.inl ?_,SR.of (VR.ptr (L:=L) (by simp[muPush])),s',e',fun _=>rfl⟩;simp[execOp,ho,Instr.range,run_und hu,ex,L]
 ·cases h
theorem run_getObj{r:Nat}{o:Obj}(h:w.heap[r]? =some o)(hc:∀c T f,o≠.cells c T f):(getObj r).run P w= .ok o w:=by
 cases o<;>simp_all [getObj,Sem.run]
theorem run_setObj{r:Nat}{o o':Obj}(h:w.heap[r]? =some o)(hc:∀c T f,o≠.cells c T f):(setObj r o').run P w= .ok () { w with heap:=w.heap.setIfInBounds r o' }:=by
 cases o<;>simp_all [setObj,Sem.run]
theorem heap_set_same{r:Nat}{o o':Obj}(h:w.heap[r]? =some o):(w.heap.setIfInBounds r o')[r]? =some o':=by
 have:r<w.heap.size:=by
  rcases Nat.lt_or_ge r w.heap.size with h' |h'
  ·exact h'
  ·rw[Array.getElem?_eq_none h']at h;cases h
 simp[this]
theorem heap_set_other{r β:Nat}{o':Obj}(h:β≠r):(w.heap.setIfInBounds r o')[β]? =w.heap[β]?:=by
 rw[Array.getElem?_setIfInBounds,if_neg (fun e=>h e.symm)]
theorem tuple3{x y z:AV}{u v t:Value}(h:VR C x u)(k:VR C y v)(l:VR C z t):VR C (.tuple [x,y,z]) (.tuple #[u,v,t]):=by
 refine .tuple rfl fun i hi=>?_;simp at hi
 match i,hi with
 |0,_=>exact h
 |1,_=>exact k
 |2,_=>exact l
theorem tuple1{x:AV}{u:Value}(h:VR C x u):VR C (.tuple [x]) (.tuple #[u]):=by
 refine .tuple rfl fun i hi=>?_;simp at hi;subst hi;exact h
theorem St.nextE(s:St C lam ms F b a w cs){o:Oper}{x:Operand}{st:Bool}{v:AV}{F':Fr}(ho:o.op= .next x st)(h:F.nextE x st= .val v F'):Eff P C lam ms F b a w cs o v F':=by
 unfold Fr.nextE at h;split at h
 ·rename_i id hx
  split at h
  ·rename_i str pos hg
   obtain⟨L,e1,f1,f2⟩:=s.wr.blk id _ hg;have hp:=s.opv hx;generalize hv0:a.eval x=pv at hp;cases hp with
   | ptr e2 =>
    rw[e1]at e2;cases e2;have hgo:=run_getObj (P:=P) f1 (fun _ _ _ h=>by cases h);split at h
    ·rename_i hlt
     cases h;have hd:Utf8.decode ⟨str.toArray⟩ pos=Utf8.decode ⟨⟨str⟩⟩ pos:=rfl;obtain⟨s',e'⟩:=s.turn (WR.put s.wr (w':={ w with heap:=w.heap.setIfInBounds L.b (.stringIter ⟨⟨str⟩⟩ (pos+(Utf8.decode ⟨⟨str⟩⟩ pos).2)) }) (blk':=.iter str (pos+(Utf8.decode ⟨⟨str⟩⟩ pos).2)) hg e1 (by simp) (fun β hb=>heap_set_other hb) ⟨heap_set_same f1,f2⟩ rfl rfl rfl)
     refine⟨_,_,_,_,.inl ?_,SR.of (tuple3 (.bool true) (.int .i64 _) (.int .i32 _)),s',e',fun _=>rfl⟩;have hsz:pos<ByteArray.size ⟨⟨str⟩⟩:=hlt;simp only[execOp,ho,hv0,f2,Instr.next,Nat.add_zero,Sem.run_bind,hgo,Result.andThen_ok,hsz,if_true];simp only[Sem.run_bind,run_setObj f1 (fun _ _ _ h=>by cases h),Result.andThen_ok,Sem.run_pure,goInt]
    ·rename_i hlt
     cases h;refine⟨C,lam,_,w,.inl ?_,SR.of (tuple1 (.bool false)),s,.refl _ _ _ _,fun _=>rfl⟩;have hsz:¬pos<ByteArray.size ⟨⟨str⟩⟩:=hlt;simp only[execOp,ho,hv0,f2,Instr.next,Nat.add_zero,Sem.run_bind,hgo,Result.andThen_ok,hsz,if_false,Sem.run_pure]
  ·cases h
 ·cases h
mutual
theorem AV.same_eq:∀(x y:AV),AV.same x y=true->x=y:=by
 intro x y h;cases x<;>cases y<;>simp only[AV.same,Bool.and_eq_true,beq_iff_eq,Bool.false_eq_true]at h;all_goals first
  |rfl
  |(rw[h])
  |(rw[h.1,h.2])
  |(rw[AV.sameL_eq _ _ h])
  |(rw[h.1,AV.same_eq _ _ h.2])
  |(rw[h.1.1,h.1.2,h.2])
  |(rw[h.1.1,AV.sameL_eq _ _ h.1.2,AV.sameL_eq _ _ h.2])
  |(rw[h.1.1.1,h.1.1.2,h.1.2,h.2])
theorem AV.sameL_eq:∀(x y:List AV),AV.sameL x y=true->x=y:=by
 intro x y h;cases x<;>cases y<;>simp only[AV.sameL,Bool.and_eq_true,Bool.false_eq_true]at h
 ·rfl
 ·rw[AV.same_eq _ _ h.1,AV.sameL_eq _ _ h.2]
end
theorem keyThatStays_ok(old new:Value):∃k w1,(Instr.keyThatStays old new).run P w= .ok k w1/\(k=old\/k=new)/\w1.heap=w.heap/\w1.os=w.os/\w1.tape=w.tape/\w1.output=w.output:=by
 unfold Instr.keyThatStays;split
 ·exact⟨new,w,rfl,.inr rfl,rfl,rfl,rfl,rfl⟩
 ·simp only[Sem.run_bind,run_choose]
  split
  ·exact⟨_,_,rfl,.inr (by simp),rfl,rfl,rfl,rfl⟩
  ·refine⟨_,_,rfl,?_,rfl,rfl,rfl,rfl⟩
   split
   ·exact .inr rfl
   ·exact .inl rfl
theorem mapPut_ok{kt:TypeId}{x v:AV}:∀(es es':List (AV×AV)) (i:Nat),mapPut P kt x v es=some es'->
  (findI P kt x es i=some none/\es'=es++[(x,v)])\/∃j u,findI P kt x es i=some (some (i+j,u))/\es'=es.set j (x,v)/\es[j]? =some (x,u):=by
 intro es;induction es with
 |nil=>intro es' i h;simp[mapPut]at h;subst h;exact .inl ⟨rfl,rfl⟩
 | cons e es ih =>
  intro es' i h;obtain⟨k,u⟩:=e;simp only[mapPut]at h;simp only[findI];split at h
  ·rename_i he
   split at h
   ·rename_i hs
    cases h;have:=AV.same_eq _ _ hs;subst this;exact .inr ⟨0,u,by simp[he],rfl,rfl⟩
   ·cases h
  ·rename_i he
   split at h
   ·rename_i l hl
    cases h;rcases ih l (i+1) hl with⟨h1,rfl⟩|⟨j,u',h1,rfl,h3⟩
    ·exact .inl ⟨by simp[he,h1],rfl⟩
    ·exact .inr ⟨j+1,u',by simp only[he,h1];rw[show i+1+j=i+(j+1) from by omega],rfl,by simpa using h3⟩
   ·cases h
  ·cases h
theorem St.mapUpdateE (s : St C lam ms F b a w cs) {o : Oper} {t : TypeId} {m k x : Operand} {v : AV} {F' : Fr} (ho : o.op = .mapUpdate t m k x) (h : F.mapUpdateE P t m k x = .val v F') : Eff P C lam ms F b a w cs o v F' := by
 unfold Fr.mapUpdateE at h;split at h
 ·rename_i kt et id kv xv hu hm hk hx
  split at h
  ·rename_i hkey
   split at h
   ·rename_i es hg
    split at h
    ·rename_i es' hput
     cases h;have rk:=s.opv hk;have rx:=s.opv hx;obtain⟨L,e1,ces,clock,f1,f2,f3⟩:=s.wr.blk id _ hg;have hp:=s.opv hm;generalize hv0:a.eval m=pv at hp;cases hp with
     | map e2 =>
      rw[e1]at e2;cases e2;have hER:EntR C es ces.toList:=⟨by simpa using f2,fun i k v hi=>by simpa using f3 i k v hi⟩;have hgo:=run_getObj (P:=P) f1 (fun _ _ _ h=>by cases h);have hck:=keyOf_ok (P:=P) (w:=w) hkey rk false;rcases mapPut_ok es es' 0 hput with⟨h1,rfl⟩|⟨j,u,h1,rfl,h3⟩
      ·obtain⟨rc,g1,g2⟩:=findKey_ok (P:=P) (w:=w) (keyOf_und hkey) rk hER h1
       cases rc with
       |some rc=>exact g2.elim
       | none =>
        obtain⟨s',e'⟩:=s.turn (WR.put s.wr (w':={ w with heap:=w.heap.setIfInBounds L.b (.map (ces.push { key:=a.eval k,val:=a.eval x,born:=clock }) (clock+1)) }) (blk':=.mp (es++[(kv,xv)])) hg e1 (by simp) (fun β hb=>heap_set_other hb)
         ⟨_,_,heap_set_same f1,by simp[f2],fun i k' v' hi=>by
          rw[List.getElem?_append]at hi;split at hi
          ·rename_i hlt
           obtain⟨e,he,r⟩:=f3 i k' v' hi;exact⟨e,by rw[Array.getElem?_push,if_neg (by omega)];exact he,r⟩
          ·rename_i hlt
           have:i=es.length:=by
            rcases Nat.lt_or_ge (i - es.length) 1 with h' |h'
            ·omega
            ·rw[List.getElem?_eq_none (by simpa using h')]at hi;cases hi
           subst this;simp at hi;obtain⟨rfl,rfl⟩:=hi;exact⟨_,by rw[<-f2];simp;rfl,rk,rx⟩⟩ rfl rfl rfl)
        refine⟨_,_,_,_,.inr ⟨rfl,?_⟩,SR.of (VRundef C),s',e',fun _=>rfl⟩;simp only[execOp,ho,hv0,Instr.mapUpdate,Sem.run_bind,run_und hu,Result.andThen_ok,hgo,hck,g1,run_setObj f1 (fun _ _ _ h=>by cases h),Sem.run_pure]
      ·obtain⟨rc,g1,g2⟩:=findKey_ok (P:=P) (w:=w) (keyOf_und hkey) rk hER h1
       cases rc with
       |none=>exact g2.elim
       | some rc =>
        obtain⟨i,uv⟩:=rc;obtain⟨rfl,_⟩:=g2;rw[Nat.zero_add]at g1;obtain⟨e0,he0,r0,_⟩:=f3 j kv u h3;obtain⟨k1,w1,q1,q2,q3,q4,q5,q6⟩:=keyThatStays_ok (P:=P) (w:=w) (((ces[j]?).map (·.key)).getD (a.eval k)) (a.eval k);have rk1:VR C kv k1:=by
         rcases q2 with rfl|rfl
         ·rw[he0];exact r0
         ·exact rk
        have f1':w1.heap[L.b]? =some (.map ces clock):=by rw[q3];exact f1
        obtain⟨s',e'⟩:=s.turn (WR.put s.wr (w':={ w1 with heap:=w1.heap.setIfInBounds L.b (.map (ces.modify j fun e=>{ e with key:=k1,val:=a.eval x }) clock) }) (blk':=.mp (es.set j (kv,xv))) hg e1 (by simp[q3]) (fun β hb=>by rw[heap_set_other hb,q3])
         ⟨_,_,heap_set_same f1',by simp[f2],fun i k' v' hi=>by
          rw[List.getElem?_set]at hi;rw[Array.getElem?_modify];by_cases hij:j=i
          ·subst hij
           rw[if_pos rfl]at hi;split at hi
           ·cases hi
            exact⟨_,by rw[if_pos rfl,he0];rfl,rk1,rx⟩
           ·cases hi
          ·rw[if_neg hij]at hi ⊢
           exact f3 i k' v' hi⟩ q4 q5 q6)
        refine⟨_,_,_,_,.inr ⟨rfl,?_⟩,SR.of (VRundef C),s',e',fun _=>rfl⟩;simp only[execOp,ho,hv0,Instr.mapUpdate,Sem.run_bind,run_und hu,Result.andThen_ok,hgo,hck,g1,q1,run_setObj f1' (fun _ _ _ h=>by cases h),Sem.run_pure]
    ·cases h
   ·cases h
  ·cases h
 ·cases h
end
end Go.AM
namespace Go.AM
open Go
variable[Keep]
def flat(l:List AV):List AV:=l.flatMap AV.cells
theorem flat_append(l r:List AV):flat (l++r)=flat l++flat r:=by simp[flat]
theorem flat_cons(e:AV)(l:List AV):flat (e::l)=e.cells++flat l:=rfl
theorem flat_length{m:Nat}:∀{l:List AV},(∀e∈l,e.cells.length=m)->(flat l).length=l.length * m:=by
 intro l;induction l with
 |nil=>intro _;simp[flat]
 |cons e l ih=>
  intro h;rw[flat_cons,List.length_append,h e (by simp),ih (fun e he=>h e (by simp[he])),List.length_cons,Nat.add_mul];omega
theorem flat_get{m:Nat}:∀{l:List AV} {i j:Nat} {e x:AV},(∀e∈l,e.cells.length=m)->l[i]? =some e->e.cells[j]? =some x->(flat l)[i * m+j]? =some x:=by
 intro l;induction l with
 |nil=>intro i j e x _ h;simp at h
 | cons e0 l ih =>
  intro i j e x h hi hj;rw[flat_cons];have h0:=h e0 (by simp);cases i with
  | zero =>
   simp at hi;subst hi;have hlt:j<e0.cells.length:=by
    rcases Nat.lt_or_ge j e0.cells.length with h' |h'
    ·exact h'
    ·rw[List.getElem?_eq_none h']at hj;cases hj
   rw[Nat.zero_mul,Nat.zero_add,List.getElem?_append_left hlt];exact hj
  |succ i=>
   have:=ih (fun e he=>h e (by simp[he])) (by simpa using hi) hj;rw[List.getElem?_append_right (by rw[h0,Nat.add_mul];omega),h0,show (i+1) * m+j - m=i * m+j from by rw[Nat.add_mul];omega];exact this
theorem flat_inv{m:Nat}:∀{l:List AV} {k:Nat} {x:AV},(∀e∈l,e.cells.length=m)->(flat l)[k]? =some x->∃i j e,l[i]? =some e/\e.cells[j]? =some x/\k=i * m+j:=by
 intro l;induction l with
 |nil=>intro k x _ h;simp[flat]at h
 | cons e0 l ih =>
  intro k x h hk;rw[flat_cons]at hk;have h0:=h e0 (by simp);rcases Nat.lt_or_ge k e0.cells.length with hlt|hge
  ·rw[List.getElem?_append_left hlt]at hk
   exact⟨0,k,e0,rfl,hk,by omega⟩
  ·rw[List.getElem?_append_right hge]at hk
   obtain⟨i,j,e,h1,h2,h3⟩:=ih (fun e he=>h e (by simp[he])) hk;exact⟨i+1,j,e,by simpa using h1,h2,by rw[Nat.add_mul];omega⟩
theorem mem_flat{l:List AV}{x:AV}(h:x∈flat l):∃e∈l,x∈e.cells:=by simpa[flat]using h
section
variable{P:Program}{w w':World}{C:Cfg}{lam:Nat->Option Nat}{ms:List Nat}{F:Fr}{b:Frame}{a:Act}{cs:List Frame}
theorem FlatR.of_flat{m o:Nat}{l:List AV}{c1 c:Array Value}(h:∀e∈l,e.cells.length=m)(h1:∀e∈l,∀x∈e.cells,x.one=true)(r:VRs C (flat l) c1)(hc:∀(k:Nat) (v:Value),c1[k]? =some v->c[o+k]? =some v):FlatR C m l c o:=fun i e he=>by
 have hm:=List.mem_of_getElem? he;refine⟨h e hm,h1 e hm,fun j x hx=>?_⟩;obtain⟨v,hv,hr⟩:=r.get (flat_get h he hx);exact⟨v,by rw[Nat.add_assoc];exact hc _ _ hv,hr⟩
structure ElemsR(P:Program)(C:Cfg)(w:World)(m:Nat)(l:List AV)(y:Value):Prop where
 len:(Builtin.lenOf y).run P w= .ok l.length w
 read:∀w1:World,w1.heap=w.heap->∃c,VRs C (flat l) c/\(Builtin.firstCells m l.length y).run P w1= .ok c w1
 one:∀e∈l,∀x∈e.cells,x.one=true
theorem cell_heap{w w1:World}(h:w1.heap=w.heap)(x:Addr):w1.cell? x=w.cell? x:=by simp[World.cell?,h]
theorem ElemsR.empty{m cap:Nat}(p:Option Addr):ElemsR P C w m [] (.slice p 0 cap):=by
 refine⟨rfl,fun w1 _=>⟨#[],VRs.nil C,?_⟩,by simp⟩;cases p<;>simp[Builtin.firstCells,loadCells,loadCellsFrom]
theorem ElemsR.slice{l:List AV}{m B O cap:Nat}(hm:∀e∈l,e.cells.length=m)(h1:∀e∈l,∀x∈e.cells,x.one=true)
  (h:∀(i j:Nat) (e x:AV),l[i]? =some e->e.cells[j]? =some x->∃v,w.cell? ⟨B,O+i * m+j,none⟩=some v/\VR C x v):ElemsR P C w m l (.slice (some ⟨B,O,none⟩) l.length cap):=by
 have key:∀w1:World,w1.heap=w.heap->∀(k:Nat) (x:AV),k<l.length * m->(flat l)[k]? =some x->∃v,w1.cell? ⟨B,O+k,none⟩=some v/\VR C x v:=fun w1 hw k x _ hk=>by
  obtain⟨i,j,e,h2,h3,rfl⟩:=flat_inv hm hk;obtain⟨v,hv,hr⟩:=h i j e x h2 h3;exact⟨v,by rw[cell_heap hw,<-Nat.add_assoc];exact hv,hr⟩
 have hlen:=flat_length hm;refine⟨rfl,fun w1 hw=>?_,h1⟩;obtain⟨c,hc,hr⟩:=run_loadCells (P:=P) (key w1 hw) (by omega);rw[<-hlen,List.take_length]at hr;exact⟨c,hr,by simpa[Builtin.firstCells,<-hlen]using hc⟩
theorem St.elems (s : St C lam ms F b a w cs) {y : AV} {yv : Value} {l : List AV} {m : Nat} (r : VR C y yv) (h : F.hp.elems y = some l) (hm : ∀ e ∈ l, e.cells.length = m) : ElemsR P C w m l yv := by
 unfold Heap.elems at h;split at h
 ·cases h;cases r;exact .empty _
 ·cases h;cases r;exact .empty _
 ·have h:=(Option.some.inj h).symm
  subst h;cases r with
  |vslice0=>exact .empty _
  | vslice vs k1 k2 k3 k4 k5 =>
   rename_i sz b' o' cap;refine .slice hm k5 fun i j e x hi hj=>?_;have hlt:i<l.length:=by
    rcases Nat.lt_or_ge i l.length with h' |h'
    ·exact h'
    ·rw[List.getElem?_eq_none h']at hi;cases hi
   have he:=List.mem_of_getElem? hi;have hjl:j<e.cells.length:=by
    rcases Nat.lt_or_ge j e.cells.length with h' |h'
    ·exact h'
    ·rw[List.getElem?_eq_none h']at hj;cases hj
   have e1:sz=m:=(k2 e he).symm.trans (hm e he);subst e1;have hs:=s.wr.sig _ _ (k3 i j hlt (by rw[<-hm e he];exact hjl));have hv:=k4 i j hlt (by rw[<-hm e he];exact hjl);refine⟨_,hs,?_⟩;have g1:l.getD i .junk=e:=by simp[List.getD,hi]
   rw[g1]at hv;have g2:e.cells.getD j .junk=x:=by simp[List.getD,hj]
   rw[g2]at hv;exact hv
 ·rename_i id off len
  split at h
  ·rename_i sz el hg
   split at h
   ·rename_i hle
    cases h;obtain⟨L,e1,c,f1,f2,f3,f4,f5⟩:=s.wr.blk id _ hg;cases r with
    | row A e2 k1 k2 k3 =>
     rw[e1]at e2;cases e2;rename_i cap;have hlen:((el.drop off).take len).length=len:=by simp;omega
     rcases k2 with rfl|rfl
     ·have:len=0:=by omega
      subst this;exact .empty _
     ·have:=ElemsR.slice (P:=P) (C:=C) (w:=w) (l:=(el.drop off).take len) (m:=m) (B:=L.b) (O:=L.o+off * L.sz) (cap:=cap) hm (fun e he=>(by
        obtain⟨i,hi⟩:=List.mem_iff_getElem?.1 (List.mem_of_mem_drop (List.mem_of_mem_take he));exact(f5 i e hi).2.1)) (fun i j e x hi hj=>by
        rw[List.getElem?_take]at hi;split at hi
        ·rename_i hlt
         rw[List.getElem?_drop]at hi;obtain⟨q1,q2,q3⟩:=f5 (off+i) e hi;obtain⟨v,hv,hr⟩:=q3 j x hj;have hmsz:m=sz:=by
          rw[<-q1];refine(hm e ?_).symm;exact List.mem_of_getElem? (i:=i) (by rw[List.getElem?_take,if_pos hlt,List.getElem?_drop];exact hi)
         refine⟨v,(f1.cell _).trans ?_,hr⟩;rw[<-hv,f2,hmsz,Nat.add_mul]
         congr 1
         omega
        ·cases hi)
      rw[hlen]at this;exact this
   ·cases h
  ·cases h
 ·cases h
theorem ElemsR.str(s:List UInt8):ElemsR P C w 1 (s.map fun b=>.int .u8 b.toNat) (.string ⟨⟨s⟩⟩):=by
 have hsz:ByteArray.size ⟨⟨s⟩⟩=s.length:=rfl;have hfl:∀s:List UInt8,flat (s.map fun b=>AV.int .u8 b.toNat)=s.map fun b=>AV.int .u8 b.toNat:=by
  intro s;induction s with
  |nil=>rfl
  |cons x s ih=>rw[List.map_cons,flat_cons,ih];rfl
 refine⟨by simp[Builtin.lenOf,hsz],fun w1 _=>⟨(s.map fun b=>Value.int .u8 b.toNat).toArray,?_,?_⟩,fun e he x hx=>?_⟩
 ·rw[hfl]
  refine VRs.of_get (by simp) fun i x hx=>?_;rw[List.getElem?_map]at hx;cases hi:s[i]? with
  |none=>rw[hi]at hx;cases hx
  |some b=>
   rw[hi]at hx;cases hx;exact⟨.int .u8 b.toNat,by simp[hi],.int _ _⟩
 ·have hx:(ByteArray.extract ⟨⟨s⟩⟩ 0 s.length)=⟨⟨s⟩⟩:=by rw[bytes_extract];simp
  simp[Builtin.firstCells,hx]
 ·obtain⟨b,_,rfl⟩:=List.mem_map.1 he
  simp[AV.cells]at hx;subst hx;rfl
theorem run_append_none'{ts:Array TypeId}{t u ty e:TypeId}{i:TypeInfo}(h0:ts[0]? =some t)(h1:ts[1]? =some u)(ht:P.underlying t=some (.slice e))(hu:P.underlying u=some .string\/∃e',P.underlying u=some (.slice e'))
  (hi:P.info? e=some i) {base:Option Addr} {sLen sCap:Nat} {y:Value} (hn:(Builtin.lenOf y).run P w= .ok 0 w) (hnew:(Builtin.firstCells i.size 0 y).run P w= .ok #[] w) (hle:sLen <=sCap) :
  (Builtin.append_ ts ty #[.slice base sLen sCap,y]).run P w= .ok (.slice base sLen sCap) w:=by
 rcases hu with hu|⟨e',hu⟩<;>cases base<;>simp[Builtin.append_,h0,h1,run_und ht,run_und hu,sizeOf,run_info hi,hn,hle,hnew,storeCells]
theorem run_append_grow'{ts:Array TypeId}{t u ty e:TypeId}{i:TypeInfo}{z:Value}(h0:ts[0]? =some t)(h1:ts[1]? =some u)(ht:P.underlying t=some (.slice e))(hu:P.underlying u=some .string\/∃e',P.underlying u=some (.slice e'))
  (hi:P.info? e=some i) (hz:i.zero=some z) {base:Option Addr} {sLen sCap n:Nat} {y:Value} {olds news:Array Value} (hn:(Builtin.lenOf y).run P w= .ok n w)
  (hold:(Builtin.firstCells i.size sLen (.slice base sLen sCap)).run P w.drew= .ok olds w.drew) (hnew:(Builtin.firstCells i.size n y).run P w.drew= .ok news w.drew)
  (hg:sCap<sLen+n) (h63:((sLen+n:Nat):Int) <=9223372036854775807) (hfit:Builtin.nextslicecap (sLen+n) sCap * i.bytes <=281474976710656) :
  (Builtin.append_ ts ty #[.slice base sLen sCap,y]).run P w =
   .ok (.slice (some ⟨w.heap.size,0,none⟩) (sLen+n) (grownCap w (sLen+n) sCap e))
    (w.drew.alloc (.cells (olds++news++Builtin.zeroCells z.cells (grownCap w (sLen+n) sCap e - (sLen+n))) e)):=by
 have hn':¬(sLen+n <=sCap):=by omega
 have h63':¬(9223372036854775807<((sLen:Int)+(n:Int))):=by omega
 have h48':¬(281474976710656<Builtin.nextslicecap (sLen+n) sCap * i.bytes):=by omega
 rcases hu with hu|⟨e',hu⟩<;>simp[Builtin.append_,h0,h1,run_und ht,run_und hu,sizeOf,zeroValue,run_info hi,hz,hn,hn',h63',h48',Question.forced,hold,hnew,Go.newRow,grownCap]
theorem run_append_fits'{ts:Array TypeId}{t u ty e:TypeId}{i:TypeInfo}(h0:ts[0]? =some t)(h1:ts[1]? =some u)(ht:P.underlying t=some (.slice e))(hu:P.underlying u=some .string\/∃e',P.underlying u=some (.slice e'))
  (hi:P.info? e=some i) {A:Addr} {sLen sCap n:Nat} {y:Value} {news:Array Value} {w1:World} (hn:(Builtin.lenOf y).run P w= .ok n w)
  (hnew:(Builtin.firstCells i.size n y).run P w= .ok news w) (hg:sLen+n <=sCap) (hst:(storeCells (A.add (sLen * i.size)) news.toList).run P w= .ok () w1) :
  (Builtin.append_ ts ty #[.slice (some A) sLen sCap,y]).run P w= .ok (.slice (some A) (sLen+n) sCap) w1:=by
 rcases hu with hu|⟨e',hu⟩<;>simp[Builtin.append_,h0,h1,run_und ht,run_und hu,sizeOf,run_info hi,hn,hg,hnew,hst]
theorem run_appendZ_none{ts:Array TypeId}{t u ty e:TypeId}{i:TypeInfo}{k k':IntKind}(h0:ts[0]? =some t)(h1:ts[1]? =some u)(ht:P.underlying t=some (.slice e))(hu:P.underlying u=some (.int k))
  (hi:P.info? e=some i) {base:Option Addr} {sLen sCap:Nat} (hle:sLen <=sCap) :
  (Builtin.append_ ts ty #[.slice base sLen sCap,.int k' 0]).run P w= .ok (.slice base sLen sCap) w:=by
 have hw:IntKind.i64.wrap 0=0:=rfl;cases base<;>simp[Builtin.append_,h0,h1,run_und ht,run_und hu,sizeOf,run_info hi,hle,storeCells,asInt,asIntOf,hw]
theorem run_appendZ_grow{ts:Array TypeId}{t u ty e:TypeId}{i:TypeInfo}{z:Value}{k k':IntKind}(h0:ts[0]? =some t)(h1:ts[1]? =some u)(ht:P.underlying t=some (.slice e))(hu:P.underlying u=some (.int k))
  (hi:P.info? e=some i) (hz:i.zero=some z) {base:Option Addr} {sLen sCap n:Nat} {olds:Array Value} (hn:n <=16777216) (hby:i.bytes <=65536) (hn0:n * i.size≠0)
  (hold:(Builtin.firstCells i.size sLen (.slice base sLen sCap)).run P w.drew= .ok olds w.drew)
  (hg:sCap<sLen+n) (h63:((sLen+n:Nat):Int) <=9223372036854775807) (hfit:Builtin.nextslicecap (sLen+n) sCap * i.bytes <=281474976710656) :
  (Builtin.append_ ts ty #[.slice base sLen sCap,.int k' n]).run P w =
   .ok (.slice (some ⟨w.heap.size,0,none⟩) (sLen+n) (grownCap w (sLen+n) sCap e))
    (w.drew.alloc (.cells (olds++Builtin.zeroCells z.cells n++Builtin.zeroCells z.cells (grownCap w (sLen+n) sCap e - (sLen+n))) e)):=by
 have hn':¬(sLen+n <=sCap):=by omega
 have h63':¬(9223372036854775807<((sLen:Int)+(n:Int))):=by omega
 have h48':¬(281474976710656<Builtin.nextslicecap (sLen+n) sCap * i.bytes):=by omega
 have hw:IntKind.i64.wrap (n:Int)=n:=wrap64 (by omega) (by omega);have hb:n * i.bytes <=16777216 * 65536:=Nat.mul_le_mul hn hby;have hb':¬(281474976710656<(n:Int) * (i.bytes:Int)):=by
  rw[<-Int.natCast_mul];omega
 have hneg:¬((n:Int)<0):=by omega
 simp[Builtin.append_,h0,h1,run_und ht,run_und hu,sizeOf,zeroValue,run_info hi,hz,hn',h63',h48',Question.forced,hold,Go.newRow,grownCap,asInt,asIntOf,hw,hb',hneg,hn0]
theorem run_appendZ_fits{ts:Array TypeId}{t u ty e:TypeId}{i:TypeInfo}{z:Value}{k k':IntKind}(h0:ts[0]? =some t)(h1:ts[1]? =some u)(ht:P.underlying t=some (.slice e))(hu:P.underlying u=some (.int k))
  (hi:P.info? e=some i) (hz:i.zero=some z) {A:Addr} {sLen sCap n:Nat} {w1:World} (hn:n <=16777216) (hby:i.bytes <=65536) (hn0:n * i.size≠0)
  (hg:sLen+n <=sCap) (hst:(storeCells (A.add (sLen * i.size)) (Builtin.zeroCells z.cells n).toList).run P w= .ok () w1) :
  (Builtin.append_ ts ty #[.slice (some A) sLen sCap,.int k' n]).run P w= .ok (.slice (some A) (sLen+n) sCap) w1:=by
 have hw:IntKind.i64.wrap (n:Int)=n:=wrap64 (by omega) (by omega);have hb:n * i.bytes <=16777216 * 65536:=Nat.mul_le_mul hn hby;have hb':¬(281474976710656<(n:Int) * (i.bytes:Int)):=by
  rw[<-Int.natCast_mul];omega
 have hneg:¬((n:Int)<0):=by omega
 simp[Builtin.append_,h0,h1,run_und ht,run_und hu,sizeOf,zeroValue,run_info hi,hz,hg,hst,asInt,asIntOf,hw,hb',hneg,hn0]
structure Fed(P:Program)(C:Cfg)(w:World)(ts:Array TypeId)(ty e:TypeId)(i:TypeInfo)(l:List AV)(y:Value):Prop where
 one:∀e∈l,∀x∈e.cells,x.one=true
 none:l=[]->∀base sLen sCap,sLen <=sCap->(Builtin.append_ ts ty #[.slice base sLen sCap,y]).run P w= .ok (.slice base sLen sCap) w
 grow:l≠[]->∃news,VRs C (flat l) news/\∀z base sLen sCap olds,i.zero=some z->(Builtin.firstCells i.size sLen (.slice base sLen sCap)).run P w.drew= .ok olds w.drew->sCap<sLen+l.length->((sLen+l.length:Nat):Int) <=9223372036854775807->
  Builtin.nextslicecap (sLen+l.length) sCap * i.bytes <=281474976710656->
  (Builtin.append_ ts ty #[.slice base sLen sCap,y]).run P w= .ok (.slice (some ⟨w.heap.size,0,.none⟩) (sLen+l.length) (grownCap w (sLen+l.length) sCap e))
    (w.drew.alloc (.cells (olds++news++Builtin.zeroCells z.cells (grownCap w (sLen+l.length) sCap e - (sLen+l.length))) e))
 fits:l≠[]->∃news,VRs C (flat l) news/\∀A sLen sCap w1,sLen+l.length <=sCap->(storeCells (A.add (sLen * i.size)) news.toList).run P w= .ok () w1->
  (Builtin.append_ ts ty #[.slice (some A) sLen sCap,y]).run P w= .ok (.slice (some A) (sLen+l.length) sCap) w1
theorem Fed.elems{ts:Array TypeId}{t u ty e:TypeId}{i:TypeInfo}{l:List AV}{y:Value}(h0:ts[0]? =some t)(h1:ts[1]? =some u)(ht:P.underlying t=some (.slice e))(hu:P.underlying u=some .string\/∃e',P.underlying u=some (.slice e'))
  (hi:P.info? e=some i) (hE:ElemsR P C w i.size l y):Fed P C w ts ty e i l y:=by
 refine⟨hE.one,fun hl base sLen sCap hle=>?_,fun _=>?_,fun _=>?_⟩
 ·subst hl
  obtain⟨c,hc,hrun⟩:=hE.read w rfl;have:c=#[]:=Array.eq_empty_of_size_eq_zero (by simpa[flat]using hc.1);subst this;exact run_append_none' h0 h1 ht hu hi hE.len hrun hle
 ·obtain⟨news,hvs,hrun⟩:=hE.read w.drew rfl
  exact⟨news,hvs,fun z base sLen sCap olds hz ho hg h63 hf=>run_append_grow' h0 h1 ht hu hi hz hE.len ho hrun hg h63 hf⟩
 ·obtain⟨news,hvs,hrun⟩:=hE.read w rfl
  exact⟨news,hvs,fun A sLen sCap w1 hg hst=>run_append_fits' h0 h1 ht hu hi hE.len hrun hg hst⟩
theorem zeroCells_succ(zero:Array Value)(n:Nat):Builtin.zeroCells zero (n+1)=zero++Builtin.zeroCells zero n:=by
 apply Array.ext
 ·simp[Builtin.zeroCells,Nat.add_mul];omega
 ·intro j h1 h2
  simp only[Builtin.zeroCells,Array.size_map,Array.size_range]at h1;by_cases hj:j<zero.size
  ·rw[Array.getElem_append_left hj]
   simp[Builtin.zeroCells,Nat.mod_eq_of_lt hj,hj]
  ·have hz:0<zero.size:=by
    rcases Nat.eq_zero_or_pos zero.size with h|h
    ·rw[h]at h1;simp at h1
    ·exact h
   have hm:(j - zero.size) % zero.size=j % zero.size:=by rw[Nat.mod_eq_sub_mod (a:=j) (by omega)]
   rw[Array.getElem_append_right (by omega)];simp[Builtin.zeroCells,hm]
theorem VRs.zeros{z:AV}{zv:Value}(r:VRs C z.cells zv.cells):∀n,VRs C (flat (List.replicate n z)) (Builtin.zeroCells zv.cells n)
 |0=>by
  have:Builtin.zeroCells zv.cells 0=#[]:=by simp[Builtin.zeroCells]
  rw[this];exact VRs.nil C
 |n+1=>by
  rw[List.replicate_succ,flat_cons,zeroCells_succ];exact r.append (VRs.zeros r n)
theorem Fed.zeros{ts:Array TypeId}{t u ty e:TypeId}{i:TypeInfo}{k k':IntKind}{z:AV}{zv:Value}{n:Nat}(h0:ts[0]? =some t)(h1:ts[1]? =some u)(ht:P.underlying t=some (.slice e))(hu:P.underlying u=some (.int k))
  (hi:P.info? e=some i) (hz:i.zero=some zv) (hr:VRs C z.cells zv.cells) (ho:∀x∈z.cells,x.one=true) (hn:n <=16777216) (hby:i.bytes <=65536) (hs:i.size≠0):Fed P C w ts ty e i (List.replicate n z) (.int k' n):=by
 have hl:(List.replicate n z).length=n:=List.length_replicate ..;refine⟨fun e he x hx=>?_,fun hl base sLen sCap hle=>?_,fun hne=>?_,fun hne=>?_⟩
 ·rw[List.eq_of_mem_replicate he]at hx;exact ho x hx
 ·have:n=0:=by simpa using hl
  subst this;exact run_appendZ_none h0 h1 ht hu hi hle
 ·refine⟨_,VRs.zeros hr n,fun z' base sLen sCap olds hz' ho hg h63 hf=>?_⟩
  rw[hz]at hz';cases hz';rw[hl]at hg h63 hf ⊢;have hn0:n≠0:=fun h=>hne (by simp[h]);exact run_appendZ_grow h0 h1 ht hu hi hz hn hby (Nat.mul_ne_zero hn0 hs) ho hg h63 hf
 ·refine⟨_,VRs.zeros hr n,fun A sLen sCap w1 hg hst=>?_⟩
  rw[hl]at hg ⊢;have hn0:n≠0:=fun h=>hne (by simp[h]);exact run_appendZ_fits h0 h1 ht hu hi hz hn hby (Nat.mul_ne_zero hn0 hs) hg hst
end
end Go.AM
namespace Go.AM
open Go
variable[Keep]
section
variable{P:Program}{w w':World}{C:Cfg}{lam:Nat->Option Nat}{ms:List Nat}{F:Fr}{b:Frame}{a:Act}{cs:List Frame}
theorem lt_of_get{α:Type}{l:List α}{i:Nat}{x:α}(h:l[i]? =some x):i<l.length:=by
 rcases Nat.lt_or_ge i l.length with h' |h'
 ·exact h'
 ·rw[List.getElem?_eq_none h']at h;cases h
theorem FlatR.append{m o:Nat}{l r:List AV}{c:Array Value}(h:FlatR C m l c o)(k:FlatR C m r c (o+l.length * m)):FlatR C m (l++r) c o:=fun i e he=>by
 rw[List.getElem?_append]at he;split at he
 ·exact h i e he
 ·rename_i hge
  obtain⟨g1,g2,g3⟩:=k (i - l.length) e he;refine⟨g1,g2,fun j x hx=>?_⟩;obtain⟨v,hv,hr⟩:=g3 j x hx;refine⟨v,?_,hr⟩;rw[<-hv]
  congr 1
  have:l.length * m+(i - l.length) * m=i * m:=by rw[<-Nat.add_mul];congr 1;omega
  omega
def isSliceA:AV->Bool| .nilslice| .vempty| .vslice _| .row _ _ _=>true|_=>false
theorem slice_form{x:AV}{v:Value}(h:isSliceA x=true)(r:VR C x v):∃p n cap,v= .slice p n cap/\n <=cap:=by
 cases r<;>simp[isSliceA]at h
 ·exact⟨_,_,_,rfl,Nat.le_refl _⟩
 ·exact⟨_,_,_,rfl,‹_›⟩
 ·exact⟨_,_,_,rfl,Nat.zero_le _⟩
 ·exact⟨_,_,_,rfl,Nat.le_refl _⟩
 ·exact⟨_,_,_,rfl,‹_›⟩
theorem rowable_ok{e:TypeId}(h:rowable P e=true):szT P e≠0/\∃i z,P.info? e=some i/\i.bytes <=65536/\zeroT P e=some z/\z.cells.length=szT P e/\isTuple z=false:=by
 unfold rowable at h;simp only[Bool.and_eq_true,bne_iff_ne,ne_eq]at h;obtain⟨⟨h1,h2⟩,h3⟩:=h;refine⟨h1,?_⟩;split at h2
 ·rename_i i hi
  split at h3
  ·rename_i z hz
   simp at h2 h3;exact⟨i,z,hi,h2,hz,h3.1,h3.2⟩
  ·cases h3
 ·cases h2
theorem St.grown(s:St C lam ms F b a w cs){elems:List AV}{olds news rest:Array Value}{T:TypeId}{sz cap:Nat}(hm:∀e∈elems,e.cells.length=sz)(h1:∀e∈elems,∀x∈e.cells,x.one=true)
  (hr:VRs C (flat elems) (olds++news)) (hc:(olds++news++rest).size=cap * sz) (hl:elems.length <=cap) :
  ∃C',SR C' lam F.lm (.row F.hp.next 0 elems.length) (.slice (some ⟨w.heap.size,0,none⟩) elems.length cap) /\
   St C' lam ms { F with hp:=F.hp.new (.rw sz elems) } b a (w.drew.alloc (.cells (olds++news++rest) T)) cs /\
   Ext C F.hp (Own lam ms) w C' (F.hp.new (.rw sz elems)) (Own lam ms) (w.drew.alloc (.cells (olds++news++rest) T)):=by
 let L:Loc:=⟨w.heap.size,0,sz,(olds++news++rest).size⟩
 have hle:=muPush_le s.wr L;have hmul:elems.length * sz <=cap * sz:=Nat.mul_le_mul_right _ hl;have hf:FlatR C sz elems (olds++news++rest) 0:=FlatR.of_flat hm h1 hr fun k v hv=>by
  rw[Nat.zero_add];have hlt:k<(olds++news).size:=by
   rcases Nat.lt_or_ge k (olds++news).size with h' |h'
   ·exact h'
   ·rw[Array.getElem?_eq_none h']at hv;cases hv
  rw[Array.getElem?_append_left hlt];exact hv
 obtain⟨s',e'⟩:=s.fresh (w':=w.drew.alloc (.cells (olds++news++rest) T)) (o:=.cells (olds++news++rest) T) (blk:=.rw sz elems) (L:=L) rfl rfl rfl rfl rfl
  ⟨olds++news++rest,⟨T,0,0,by show (w.heap.push _)[w.heap.size]? =_;simp,.inl (Nat.le_refl _)⟩,rfl,rfl,by show 0+elems.length * sz <=(olds++news++rest).size;omega,hf.mono hle⟩
 exact⟨_,SR.of (VR.row (L:=L) _ (by simp[muPush]) hl (.inr (by simp[L])) (by show 0+(0+cap) * sz <=(olds++news++rest).size;rw[Nat.zero_add,Nat.zero_add];omega)),s',e'⟩
theorem St.appendV (s : St C lam ms F b a w cs) {ts : Array TypeId} {t ty : TypeId} {x v : AV} {new : List AV} {F' : Fr} {xv yv : Value}
  (hx:VR C x xv) (hy:∀e i,P.underlying t=some (.slice e)->P.info? e=some i->i.bytes <=65536->(∀e∈new,e.cells.length=i.size)->i.size≠0->Fed P C w ts ty e i new yv) (h:appendV P F t x new=some (v,F')) :
  ∃C' r w',(Builtin.append_ ts ty #[xv,yv]).run P w= .ok r w'/\SR C' lam F'.lm v r/\St C' lam ms F' b a w' cs/\Ext C F.hp (Own lam ms) w C' F'.hp (Own lam ms) w':=by
 unfold Go.AM.appendV at h;split at h
 ·cases h
 ·rename_i e he
  split at h
  ·cases h
  ·rename_i hnew
   simp only[Bool.or_eq_true,Bool.not_eq_true',not_or,Bool.not_eq_false,Bool.not_eq_true]at hnew;obtain⟨hall,hrow⟩:=hnew;obtain⟨hsz0,i,z,hi,hby,hzt,hzl⟩:=rowable_ok hrow;have hm:∀e'∈new,e'.cells.length=szT P e:=fun e' he'=>by simpa using List.all_eq_true.1 hall e' he'
   have hszi:szT P e=i.size:=by simp[szT,hi]
   have hE:=hy e i (elemT_und he) hi hby (fun e' he'=>by rw[<-hszi];exact hm e' he') (by rw[<-hszi];exact hsz0);obtain⟨zv,z1,z2,i',hi',hz'⟩:=run_zero (P:=P) (w:=w) (C:=C) hzt;rw[hi]at hi';cases hi';have hzs:zv.cells.size=i.size:=by rw[<-hszi,<-hzl.1];exact(z2.cells (not_tuple hzl.2)).1.1
   split at h
   ·rename_i hn0
    have hnil:new=[]:=List.eq_nil_of_length_eq_zero hn0;subst hnil;have key:x=v/\F=F'/\isSliceA x=true:=by
     cases x<;>simp at h<;>exact⟨h.1,h.2,rfl⟩
    obtain⟨rfl,rfl,hs⟩:=key;obtain⟨p,n,cap,rfl,hnc⟩:=slice_form hs hx;exact⟨C,_,w,hE.none rfl _ _ _ hnc,SR.of hx,s,.refl _ _ _ _⟩
   ·rename_i hn0
    have bound:∀sLen,sLen+new.length <=16777216->∀sCap,sCap<sLen+new.length->((sLen+new.length:Nat):Int) <=9223372036854775807/\Builtin.nextslicecap (sLen+new.length) sCap * i.bytes <=281474976710656:=fun sLen hb sCap hlt=>
     ⟨by omega,growslice_fits hlt (by
      have:(sLen+new.length) * i.bytes <=16777216 * 65536:=Nat.mul_le_mul hb hby;omega)⟩
    have hne:new≠[]:=fun h=>hn0 (by rw[h];rfl);obtain⟨news,hvs,hrun⟩:=hE.grow hne;have hfl:=flat_length hm;have hns:news.size=new.length * i.size:=by rw[hvs.1,hfl,hszi]
    have grow0:∀(p:Option Addr),new.length <=most->∃C' r w',(Builtin.append_ ts ty #[.slice p 0 0,yv]).run P w= .ok r w'/\SR C' lam F.lm (.row F.hp.next 0 new.length) r /\
      St C' lam ms { F with hp:=F.hp.new (.rw (szT P e) new) } b a w' cs/\Ext C F.hp (Own lam ms) w C' (F.hp.new (.rw (szT P e) new)) (Own lam ms) w':=by
     intro p hb;obtain⟨b1,b2⟩:=bound 0 (by simpa[most]using hb) 0 (by omega);have hge:=grownCap_ge w (0+new.length) 0 e;obtain⟨C',q1,q2,q3⟩:=s.grown (olds:=#[]) (news:=news) (rest:=Builtin.zeroCells zv.cells (grownCap w (0+new.length) 0 e - (0+new.length))) (T:=e) (cap:=grownCap w (0+new.length) 0 e) hm hE.one (by simpa using hvs)
      (by
       simp only[Array.size_append,size_zeroCells,hns,hzs,hszi];rw[show (#[]:Array Value).size=0 from rfl,Nat.zero_add,<-Nat.add_mul]
       congr 1
       omega) (by omega)
     refine⟨C',_,_,hrun zv p 0 0 #[] hz' ?_ (by omega) b1 b2,by simpa using q1,q2,q3⟩;cases p<;>simp[Builtin.firstCells,loadCells,loadCellsFrom]
    split at h
    ·split at h
     ·rename_i hb
      cases h;cases hx;exact grow0 none hb
     ·cases h
    ·split at h
     ·rename_i hb
      cases h;cases hx;exact grow0 (some _) hb
     ·cases h
    ·rename_i id off len
     split at h
     ·rename_i sz el hg
      split at h
      ·rename_i hh
       obtain⟨rfl,htip,hb⟩:=hh;cases h;have hb':len+new.length <=16777216:=by simpa[most]using hb
       have hall':∀e'∈el.drop off++new,e'.cells.length=szT P e/\∀x∈e'.cells,x.one=true:=by
        obtain⟨L,e1,c,f1,f2,f3,f4,f5⟩:=s.wr.blk id _ hg;intro e' he';rcases List.mem_append.1 he' with h|h
        ·obtain⟨j,hj⟩:=List.mem_iff_getElem?.1 (List.mem_of_mem_drop h)
         exact⟨(f5 j e' hj).1,(f5 j e' hj).2.1⟩
        ·exact⟨hm e' h,hE.one e' h⟩
       have hdl:(el.drop off).length=len:=by simp;omega
       have hlen2:(el.drop off++new).length=len+new.length:=by simp;omega
       have hEold:ElemsR P C w (szT P e) (el.drop off) xv:=by
        have:=s.elems (P:=P) (l:=el.drop off) hx (by simp only[Heap.elems,hg];rw[if_pos (by omega),List.take_of_length_le (by omega)]) (fun e' he'=>(hall' e' (List.mem_append_left _ he')).1);exact this
       obtain⟨L,e1,c,f1,f2,f3,f4,f5⟩:=s.wr.blk id _ hg;cases hx with
       | row A e2 k1 k2 k3 =>
        rename_i cap L';rw[e1]at e2;cases e2;by_cases hfit:len+new.length <=cap
        ·rcases k2 with rfl|rfl
         ·omega
         ·obtain⟨news',hvs',hrun'⟩:=hE.fits hne
          have hns':news'.size=new.length * szT P e:=by rw[hvs'.1,hfl]
          have hcapm:(off+(len+new.length)) * szT P e <=(off+cap) * szT P e:=Nat.mul_le_mul_right _ (by omega);rw[f2]at k3;have hsum:off * szT P e+(len * szT P e+new.length * szT P e)=(off+(len+new.length)) * szT P e:=by rw[Nat.add_mul,Nat.add_mul]
          have hone:∀y∈news'.toList,oneV y=true:=hvs'.one_all fun y hy=>by
           obtain⟨e',he',hy'⟩:=mem_flat hy;exact hE.one e' he' y hy'
          obtain⟨w',r1,r2,r3,r4,r5,r6,r7⟩:=run_storeCells (P:=P) (O:=L.o+off * szT P e+len * szT P e) news'.toList 0 w c f1 (by simp[hns'];omega) hone;rw[Nat.add_zero]at r2
          let L2:Loc:={ L with o:=L.o+off * L.sz }
          have hle:=muPush_le s.wr L2;have hpos:L.o+off * szT P e+(el.drop off).length * szT P e=L.o+off * szT P e+len * szT P e:=by rw[hdl]
          have hfold:FlatR C (szT P e) (el.drop off) (setMany c (L.o+off * szT P e+len * szT P e) news'.toList) (L.o+off * szT P e):=fun j e' hj=>by
           rw[List.getElem?_drop]at hj;obtain⟨g1,g2,g3⟩:=f5 (off+j) e' hj;refine⟨g1,g2,fun j' y hy=>?_⟩;obtain⟨vv,hv,hr⟩:=g3 j' y hy;have hjl:=lt_of_get hj;have hj'l:=lt_of_get hy;rw[g1]at hj'l;have hb1:=mul_lt_of (i:=j) (n:=len) (m:=szT P e) (by omega) hj'l;refine⟨vv,?_,hr⟩;rw[setMany_get _ _ _ _ (by simp[hns'];omega),if_neg (by omega),<-hv,Nat.add_mul]
           congr 1
           omega
          have hfnew:FlatR C (szT P e) new (setMany c (L.o+off * szT P e+len * szT P e) news'.toList) (L.o+off * szT P e+(el.drop off).length * szT P e):=FlatR.of_flat hm hE.one hvs' fun k vv hv=>by
           have hk:k<news'.size:=by
            rcases Nat.lt_or_ge k news'.size with h' |h'
            ·exact h'
            ·rw[Array.getElem?_eq_none h']at hv;cases hv
           rw[hpos,setMany_get _ _ _ _ (by simp[hns'];omega),if_pos (by simp;omega),Nat.add_sub_cancel_left];simpa using hv
          have hWR:=WR.turn (C':=muPush C F.hp.next L2) (h':=(F.hp.del id).new (.rw (szT P e) (el.drop off++new))) (id':=F.hp.next) (L':=L2) (blk':=.rw (szT P e) (el.drop off++new)) (w':=w') s.wr hle rfl hg e1
           (fun j bj hj=>by
            rw[Heap.get_new]at hj;by_cases e3:F.hp.next=j
            ·rw[if_pos (by exact e3)]at hj
             exact .inr ⟨e3.symm,by cases hj;rfl⟩
            ·rw[if_neg (by exact e3),Heap.get_del]at hj
             by_cases e4:id=j
             ·rw[if_pos e4]at hj;cases hj
             ·rw[if_neg e4]at hj
              exact .inl ⟨fun e5=>e3 e5.symm,fun e5=>e4 e5.symm,hj,fun Lj hLj=>by simp only[muPush]at hLj;rw[if_neg (fun e5=>e3 e5.symm)]at hLj;exact hLj⟩)
           (by simp[muPush]) rfl (Nat.le_succ _) (fun j Lj hj=>by
            show j<F.hp.next+1;simp only[muPush]at hj;split at hj
            ·omega
            ·have:=s.wr.fresh j Lj hj;omega) r3 r4
           ⟨_,r2,f2,by rw[setMany_size];exact f3,by
            rw[setMany_size,hlen2];show L.o+off * L.sz+(len+new.length) * szT P e <=c.size;rw[f2,Nat.add_mul];omega,by
            show FlatR _ _ _ _ (L.o+off * L.sz);rw[f2];exact(FlatR.append hfold hfnew).mono hle⟩ r5 r6 r7
          obtain⟨s',e'⟩:=s.turn hWR;refine⟨_,_,w',hrun' _ _ _ _ hfit ?_,SR.of (VR.row (L:=L2) _ (by simp[muPush]) (by omega) (.inr (by simp[L2])) (by
           show L.o+off * L.sz+(0+cap) * L.sz <=L.tot;rw[f2,Nat.zero_add];have:off * szT P e+cap * szT P e=(off+cap) * szT P e:=by rw[Nat.add_mul]
           omega)),s',e'⟩
          rw[addr_add,<-hszi,f2];exact r1
        ·obtain⟨olds,hvo,hruno⟩:=hEold.read w.drew rfl
         have hos:olds.size=len * i.size:=by rw[hvo.1,flat_length (fun e' he'=>(hall' e' (List.mem_append_left _ he')).1),hdl,hszi]
         obtain⟨b1,b2⟩:=bound len hb' cap (by omega);have hge:=grownCap_ge w (len+new.length) cap e;obtain⟨s1,x1⟩:=s.turn (WR.del s.wr id);obtain⟨C',q1,q2,q3⟩:=s1.grown (elems:=el.drop off++new) (olds:=olds) (news:=news) (rest:=Builtin.zeroCells zv.cells (grownCap w (len+new.length) cap e - (len+new.length))) (T:=e) (cap:=grownCap w (len+new.length) cap e) (sz:=szT P e)
          (fun e' he'=>(hall' e' he').1) (fun e' he'=>(hall' e' he').2) (by rw[flat_append];exact hvo.append hvs)
          (by
           simp only[Array.size_append,size_zeroCells,hns,hzs,hszi,hos];rw[<-Nat.add_mul,<-Nat.add_mul]
           congr 1
           omega) (by omega)
         refine⟨C',_,_,hrun zv _ _ _ olds hz' ?_ (by omega) b1 b2,by rw[hlen2]at q1;exact q1,q2,x1.trans q3⟩;rw[<-hszi,<-hdl];rw[hdl]at hruno ⊢;exact hruno
      ·cases h
     ·cases h
    ·cases h
theorem St.bytesE(s:St C lam ms F b a w cs){o:Oper}{t u:TypeId}{x:Operand}{v:AV}{F':Fr}(ho:o.op= .convert t u x)(h:F.bytesE P t u x= .val v F'):Eff P C lam ms F b a w cs o v F':=by
 unfold Fr.bytesE at h;split at h
 ·rename_i e l h1 h2 hx
  split at h
  ·rename_i hc
   cases h;obtain⟨hu,hne⟩:=hc;have hu':=isU8_und hu;have ex:=(s.opv hx).str_inv;have hge:l.length <=grownCap w l.length 0 e:=grownCap_ge w l.length 0 e;have hsz:(Lib.bytesCells w e ⟨⟨l⟩⟩).size=grownCap w l.length 0 e:=by
    simp only[Lib.bytesCells,Array.size_append,Array.size_map,Array.size_replicate];show l.length+(grownCap w l.length 0 e - l.length)=_;omega
   let L:Loc:=⟨w.heap.size,0,1,(Lib.bytesCells w e ⟨⟨l⟩⟩).size⟩
   have hheap:(Lib.bytesWorld w e ⟨⟨l⟩⟩).heap=w.heap.push (.cells (Lib.bytesCells w e ⟨⟨l⟩⟩) e ((Lib.bytesCells w e ⟨⟨l⟩⟩).size,(Lib.bytesCells w e ⟨⟨l⟩⟩).size+1)):=by
    apply Array.ext_getElem?;intro j;rw[Array.getElem?_push];rcases Nat.lt_trichotomy j w.heap.size with q|q|q
    ·rw[if_neg (by omega),Lib.bytesWorld_at_old _ _ _ _ q]
    ·subst q
     rw[if_pos rfl,Lib.bytesWorld_at_new]
    ·rw[if_neg (by omega),Array.getElem?_eq_none (by rw[Lib.bytesWorld_size];omega),Array.getElem?_eq_none (by omega)]
   obtain⟨s',e'⟩:=s.fresh (w':=Lib.bytesWorld w e ⟨⟨l⟩⟩) (o:=.cells (Lib.bytesCells w e ⟨⟨l⟩⟩) e ((Lib.bytesCells w e ⟨⟨l⟩⟩).size,(Lib.bytesCells w e ⟨⟨l⟩⟩).size+1)) (blk:=.rw 1 (l.map fun b=>.int .u8 b.toNat)) (L:=L) hheap rfl rfl rfl rfl
    ⟨Lib.bytesCells w e ⟨⟨l⟩⟩,⟨e,_,_,Lib.bytesWorld_at_new w e ⟨⟨l⟩⟩,.inr (Nat.le_refl _)⟩,rfl,rfl,by rw[hsz];simpa[L]using hge,fun i x hi=>by
     rw[List.getElem?_map,Option.map_eq_some_iff]at hi;obtain⟨y,hy,rfl⟩:=hi;refine⟨rfl,fun x hx=>by simp only[AV.cells,List.mem_singleton]at hx;subst hx;rfl,fun j x hj=>?_⟩;cases j with
     |zero=>
      simp only[AV.cells,List.getElem?_cons_zero,Option.some.injEq]at hj;subst hj;refine⟨.int .u8 y.toNat,?_,.int _ _⟩;have hlt:i<l.length:=(List.getElem?_eq_some_iff.1 hy).1;have hyi:=(List.getElem?_eq_some_iff.1 hy).2;simp only[Lib.bytesCells,L,Nat.zero_add,Nat.mul_one,Nat.add_zero];rw[Array.getElem?_append_left (by simpa using hlt)];simp[hlt,hyi]
     |succ j=>simp[AV.cells]at hj⟩
   refine⟨_,_,_,_,.inl ?_,SR.of (VR.row (L:=L) (cap:=grownCap w l.length 0 e) ⟨w.heap.size,0,none⟩ (by simp[muPush]) hge (.inr (by simp[L])) (by show 0+(0+grownCap w l.length 0 e) * 1 <=(Lib.bytesCells w e ⟨⟨l⟩⟩).size;omega)),s',e',fun _=>rfl⟩;have hrun:=Lib.run_convert_string_bytes (P:=P) w t u e ⟨⟨l⟩⟩ h1 h2 hu';simp only[execOp,ho,ex,hrun,Sem.run_bind,Result.andThen_ok,Sem.run_pure];rfl
  ·cases h
 ·cases h
end
end Go.AM
namespace Go.AM
open Go
variable[Keep]
def Answered(P:Program)(C:Cfg)(h:Heap)(w:World)(m:Machine)(c:Frame)(cs:List Frame):COut->Prop
 | .ret v h' _=>∃C' w' u,Steps P m (lone (c.finish u) cs w')/\VR C' v u/\WR C' h' w'/\Ext C h (fun _=>False) w C' h' (fun _=>False) w'
 | .pan v h' _=>∃C' w' u,Steps P m (lone (c.raise [{ v:=u,recovered:=false }]) cs w')/\VR C' v u/\WR C' h' w'/\Ext C h (fun _=>False) w C' h' (fun _=>False) w'
 | .fail=>True
def ClOK(P:Program)(cl:FuncId->List AV->Heap->COut):Prop:=
 ∀(f:FuncId) (args:List AV) (h:Heap) (C:Cfg) (w:World) (vs:Array Value),WR C h w->VRs C args vs->cl f args h≠.fail->
  (∃fn,P.funcs[f]? =some fn/\fn.body.isSome=true)/\∀c cs,Answered P C h w (lone (Frame.enter P f vs .normal) (c::cs) w) c cs (cl f args h)
def RdOK(P:Program)(rd:Nat->List AV->Heap->COut):Prop:=
 ∀(id:Nat) (args:List AV) (h:Heap) (C:Cfg) (w:World) (vs:Array Value) (L:Loc),WR C h w->VRs C args vs->C.mu id=some L->rd id args h≠.fail->
  ∃f tmps assign body,(Instr.yield L.b vs).run P w= .ok (.round L.b f tmps assign body) w/\∀c cs,Answered P C h w (lone (Frame.round L.b f tmps assign body .normal) (c::cs) w) c cs (rd id args h)
def NoNum (P:Program):Prop:=∀ (f:FuncId) (fn:Func),P.funcs[f]? =some fn->(fn.name== "runtime.NumGoroutine")=false
theorem run_callFunc{P:Program}{w:World}(hP:NoNum P){f:FuncId}{fn:Func}{vs:Array Value}(hf:P.funcs[f]? =some fn)(hb:fn.body.isSome=true):(callFunc f vs).run P w= .ok (.enter f vs) w:=by
 cases hbb:fn.body with
 |none=>rw[hbb]at hb;cases hb
 |some c=>
  have hn:¬ fn.name = "runtime.NumGoroutine" :=by simpa using hP f fn hf
  simp[callFunc,hf,hn,hbb]
def CsR(b:Frame)(cs cs':List Frame):Prop:=cs'=cs\/(b.kind= .deferred/\∃c rest m,cs=c::rest/\cs'={ c with mode:=m }::rest)
theorem CsR.refl(b:Frame)(cs:List Frame):CsR b cs cs:=.inl rfl
theorem CsR.trans{b:Frame}{x y z:List Frame}(h:CsR b x y)(k:CsR b y z):CsR b x z:=by
 rcases h with rfl|⟨h1,c,rest,m,rfl,rfl⟩
 ·exact k
 ·rcases k with rfl|⟨_,c',rest',m',e,rfl⟩
  ·exact .inr ⟨h1,c,rest,m,rfl,rfl⟩
  ·cases e
   exact .inr ⟨h1,c,rest,m',rfl,rfl⟩
def Pan(u:Value):FrameMode:=.panicking [{ v:=u,recovered:=false }]
def OpRun(P:Program)(C:Cfg)(lam:Nat->Option Nat)(ms:List Nat)(F:Fr)(b:Frame)(a:Act)(w:World)(cs:List Frame)(ops:Array Oper)(i:Nat)(rest:List Nat)(k:List Item)(bx:Bool)(d:Option Tmp):OOut->Prop
 | .val v F' => ∃ C' lam' a' cs' w' u, Steps P (lone (b.atR a (.inRegion ops (i :: rest) :: k)) cs w) (lone (b.atR (a'.put d u) (.inRegion ops rest :: k)) cs' w') /\ a'.tmps = a.tmps /\ SR C' lam' F'.lm v u /\
   St C' lam' ms F' b a' w' cs'/\Ext C F.hp (Own lam ms) w C' F'.hp (Own lam' ms) w'/\CsR b cs cs'/\(bx=false->lam'=lam)
 | .pan v F' => ∃ C' lam' a' cs' w' u, Steps P (lone (b.atR a (.inRegion ops (i :: rest) :: k)) cs w) (lone { b.atR a' (.inRegion ops (i :: rest) :: k) with mode := Pan u } cs' w') /\ a'.tmps = a.tmps /\ VR C' v u /\
   St C' lam' ms F' b a' w' cs'/\Ext C F.hp (Own lam ms) w C' F'.hp (Own lam' ms) w'/\CsR b cs cs'/\(bx=false->lam'=lam)
 | .fail=>True
section
variable{P:Program}{w w':World}{C:Cfg}{lam:Nat->Option Nat}{ms:List Nat}{F:Fr}{b:Frame}{a:Act}{cs:List Frame}{ops:Array Oper}{i:Nat}{rest:List Nat}{k:List Item}{o:Oper}
theorem Eff.opRun{v:AV}{F':Fr}(h:Eff P C lam ms F b a w cs o v F')(ho:ops[i]? =some o)(hw:Region.wanted o (yielded ops a.tmps)=true)(hd:∀c,o.op≠.defer c):OpRun P C lam ms F b a w cs ops i rest k (boxy o.op) o.dst (.val v F'):=by
 obtain⟨C',lam',u,w',hr,h1,h2,h3,h4⟩:=h;refine⟨C',lam',a,cs,w',u,.one ?_,rfl,h1,h2,h3,.refl b cs,h4⟩;rcases hr with hr|⟨rfl,hr⟩
 ·exact stepA_value ho hw hd hr
 ·exact stepA_skip ho hw hd hr
theorem St.answered(s:St C lam ms F b a w cs)(ho:ops[i]? =some o){m:Machine}{r:COut}(h0:step P (lone (b.atR a (.inRegion ops (i::rest)::k)) cs w)= .next m)
  (h:Answered P C F.hp w m (b.atR a (.inRegion ops (i::rest)::k)) cs r):OpRun P C lam ms F b a w cs ops i rest k (boxy o.op) o.dst (outOf F r):=by
 cases r with
 |ret v h' up=>
  obtain⟨C',w',u,h1,h2,h3,h4⟩:=h;have hf:=Frame.finish_atR b a ops i rest k u;rw[ho]at hf;rw[hf]at h1;exact⟨C',lam,a,cs,w',u,.head h0 h1,rfl,SR.of h2,s.later h3 h4,h4.wide _,.refl b cs,fun _=>rfl⟩
 |pan v h' up=>
  obtain⟨C',w',u,h1,h2,h3,h4⟩:=h;rw[Frame.raise_atR]at h1;exact⟨C',lam,a,cs,w',u,.head h0 h1,rfl,h2,s.later h3 h4,h4.wide _,.refl b cs,fun _=>rfl⟩
 |fail=>trivial
theorem VR.func_inv{f:FuncId}{first capt:List AV}{v:Value}(h:VR C (.func (.func f) first capt) v):∃vs ws,v= .func (.func f) vs ws/\VRs C first vs/\VRs C capt ws:=by
 cases h with
 |func h1 h2 h3 h4=>exact⟨_,_,rfl,⟨h1,h2⟩,h3,h4⟩
theorem VR.yield_inv{id:Nat}{v:Value}(h:VR C (.yield id) v):∃L,C.mu id=some L/\v= .func (.yield L.b) #[] #[]:=by
 cases h with
 |yield h=>exact⟨_,h,rfl⟩
theorem St.callE{cl:FuncId->List AV->Heap->COut}{rd:Nat->List AV->Heap->COut}(hP:NoNum P)(hc:ClOK P cl)(hr:RdOK P rd)(s:St C lam ms F b a w cs)(ho:ops[i]? =some o)(hw:Region.wanted o (yielded ops a.tmps)=true){c:Call}{f:Operand}
  (hop:o.op= .call c) (hf:c.callee= .value f):OpRun P C lam ms F b a w cs ops i rest k (boxy o.op) o.dst (F.callE cl rd f c.args.toList):=by
 have hd:∀c',o.op≠.defer c':=fun c' e=>by rw[hop]at e;cases e
 unfold Fr.callE;split
 ·rename_i fv l hfv hl
  have r1:=s.opv hfv;have r2:=opvs_arr s hl;by_cases hfail:callV cl rd fv l F.hp= .fail
  ·rw[hfail];trivial
  ·unfold callV at hfail ⊢
   split at hfail
   ·rename_i g first capt
    obtain⟨vs,ws,e,rv,rw'⟩:=r1.func_inv;obtain⟨⟨fn,hfn,hb⟩,hans⟩:=hc g _ F.hp C w _ s.wr (VRs.append (VRs.append rv r2) rw') hfail;refine s.answered ho (stepA_enter ho hw hd ?_) (hans _ cs);simp only[execOp,hop,resolve,hf,e,Deferred.ofValue,Sem.run_bind,Sem.run_pure,Result.andThen_ok,invoke,run_callFunc hP hfn hb]
   ·rename_i id
    obtain⟨L,hL,e⟩:=r1.yield_inv;obtain⟨g,tmps,assign,body,hrun,hans⟩:=hr id _ F.hp C w _ L s.wr r2 hL hfail;refine s.answered ho (stepA_round ho hw hd ?_) (hans _ cs);simp only[execOp,hop,resolve,hf,e,Deferred.ofValue,Sem.run_bind,Sem.run_pure,Result.andThen_ok,invoke,Array.empty_append,hrun]
   ·exact absurd rfl hfail
 ·trivial
theorem St.panicOp{r:AV}{u:Value}(s:St C lam ms F b a w cs)(ho:ops[i]? =some o)(hw:Region.wanted o (yielded ops a.tmps)=true)(hd:∀c,o.op≠.defer c)(hr:VR C r u)
  (h:(execOp a.eval o).run P w= .halt (.panic u) w):OpRun P C lam ms F b a w cs ops i rest k (boxy o.op) o.dst (.pan r F):=
 ⟨C,lam,a,cs,w,u,.one (stepA_panic ho hw hd h),rfl,hr,s,.refl _ _ _ _,.refl b cs,fun _=>rfl⟩
theorem VR.iface_inv{t:TypeId}{x:AV}{v:Value}(h:VR C (.iface t x) v):∃u,v= .iface t u/\VR C x u:=by
 cases h with
 |iface h=>exact⟨_,rfl,h⟩
theorem St.panicE{x:Operand}(s:St C lam ms F b a w cs)(ho:ops[i]? =some o)(hw:Region.wanted o (yielded ops a.tmps)=true)(hd:∀c,o.op≠.defer c)
  (h:∀t u,a.eval x= .iface t u->(execOp a.eval o).run P w= .halt (.panic (.iface t u)) w):OpRun P C lam ms F b a w cs ops i rest k (boxy o.op) o.dst (F.panicE x):=by
 unfold Fr.panicE;split
 ·rename_i t v hv
  obtain⟨u,e,r⟩:=(s.opv hv).iface_inv;refine s.panicOp ho hw hd (.iface r) (h t u e)
 ·trivial
theorem methodOf_ok{t:TypeId}{name:String}{f:FuncId}(h:methodOf P t name=some f)(fuel:Nat)(v:Value):(method (fuel+1) t v name).run P w= .ok (f,v) w:=by
 unfold methodOf at h;split at h
 ·cases h
 ·rename_i i d hnp hi hu
  split at h
  ·rename_i m hm
   split at h
   ·rename_i hp
    split at h
    ·rename_i f' hf
     cases h;have hpe:m.path=#[]:=by simpa using hp
     have hra:∀nm,(receiverAt t (.val v) false nm).run P w= .ok v w:=fun nm=>by
      simp only[receiverAt,Sem.run_bind,run_und hu,Result.andThen_ok];cases d<;>first|rfl|exact absurd rfl (hnp _)
     simp[method,run_info hi,hm,hpe,follow,hf,hra]
    ·cases h
   ·cases h
  ·cases h
 ·cases h
theorem St.invokeE{cl:FuncId->List AV->Heap->COut}(hP:NoNum P)(hc:ClOK P cl)(s:St C lam ms F b a w cs)(ho:ops[i]? =some o)(hw:Region.wanted o (yielded ops a.tmps)=true){c:Call}{x:Operand}{name:String}
  (hop:o.op= .call c) (hf:c.callee= .invoke x name):OpRun P C lam ms F b a w cs ops i rest k (boxy o.op) o.dst (F.invokeE P cl x name c.args.toList):=by
 have hd:∀c',o.op≠.defer c':=fun c' e=>by rw[hop]at e;cases e
 unfold Fr.invokeE;split
 ·rename_i t v l hfv hl
  obtain⟨u,e,r1⟩:=(s.opv hfv).iface_inv;have r2:=opvs_arr s hl;split
  ·rename_i g hg
   by_cases hfail:cl g (v::l) F.hp= .fail
   ·rw[hfail];trivial
   ·have r3:=VRs.cons r1 r2
    obtain⟨⟨fn,hfn,hb⟩,hans⟩:=hc g _ F.hp C w _ s.wr r3 hfail;refine s.answered ho (stepA_enter ho hw hd ?_) (hans _ cs);have hm:=fun fuel=>methodOf_ok (w:=w) hg fuel u;have hdp:P.types.size+Made.depth=P.types.size+Made.depth - 1+1:=by simp[Made.depth]
    have hex:(#[Value.iface t u]++c.args.map a.eval).extract 1 (#[Value.iface t u]++c.args.map a.eval).size=c.args.map a.eval:=by
     apply Array.ext';simp[List.take_of_length_le]
    have hget:(#[Value.iface t u]++c.args.map a.eval)[0]? =some (.iface t u):=by
     rw[Array.getElem?_append_left (by simp)];rfl
    simp only[execOp,hop,resolve,hf,e,Sem.run_bind,Sem.run_pure,Result.andThen_ok,invoke,hget,callMethod,run_program,hex];rw[hdp,hm];simp only[Result.andThen_ok,run_callFunc hP hfn hb]
  ·trivial
 ·trivial
theorem St.recoverE(s:St C lam ms F b a w cs)(ho:ops[i]? =some o)(hw:Region.wanted o (yielded ops a.tmps)=true)(hd:∀c,o.op≠.defer c)(hr:(execOp a.eval o).run P w= .ok .recover w) :
  OpRun P C lam ms F b a w cs ops i rest k (boxy o.op) o.dst F.recoverE:=by
 unfold Fr.recoverE;split
 ·trivial
 ·rename_i hrnd
  have hro:b.roundOf=none:=by
   have:=s.rnd;cases h:b.roundOf with
   |none=>rfl
   |some l=>rw[h]at this;simp at this;rw[<-this]at hrnd;simp at hrnd
  have hup:=s.up;split
  ·rename_i v hv
   rw[hv]at hup;obtain⟨h1,c,rest',u,rfl,h3,h4⟩:=hup;have ht:tryRecover (b.atR a (.inRegion ops (i::rest)::k)) (c::rest')=some (u,{ c with mode:=.panicking [{ v:=u,recovered:=true }] }::rest'):=by
    simp[tryRecover,Frame.atR,h1,h3]
   refine⟨C,lam,a,_,w,u,.one (stepA_recover ho hw hd hro hr ht),rfl,SR.of h4,?_,.refl _ _ _ _,.inr ⟨h1,c,rest',_,rfl,rfl⟩,fun _=>rfl⟩;exact { s with up:=⟨h1,_,_,u,rfl,rfl,h4⟩ }
  ·rename_i hv
   have ht:tryRecover (b.atR a (.inRegion ops (i::rest)::k)) cs=none:=by
    cases hF:F.up with
    |none=>
     rw[hF]at hup;rcases hup with h|⟨h,c,rest',rfl,h2⟩
     ·simp[tryRecover,Frame.atR,h]
     ·simp[tryRecover,Frame.atR,h,h2]
    |some p=>
     obtain⟨v,r⟩:=p;rw[hF]at hup;obtain⟨h1,c,rest',u,rfl,h3,h4⟩:=hup;cases r with
     |false=>exact absurd hF (hv v)
     |true=>simp[tryRecover,Frame.atR,h1,h3]
   exact⟨C,lam,a,cs,w,.nilIface,.one (stepA_recover ho hw hd hro hr ht),rfl,SR.of .niliface,s,.refl _ _ _ _,.refl b cs,fun _=>rfl⟩
theorem St.appendE(s:St C lam ms F b a w cs)(ho:ops[i]? =some o)(hw:Region.wanted o (yielded ops a.tmps)=true){c:Call}(hop:o.op= .call c)(hf:c.callee= .builtin .append) :
  OpRun P C lam ms F b a w cs ops i rest k (boxy o.op) o.dst (F.appendE P c.argTypes.toList c.args.toList):=by
 have hd:∀c',o.op≠.defer c':=fun c' e=>by rw[hop]at e;cases e
 unfold Fr.appendE;split
 ·rename_i t u ts x y hts hl
  have r2:=opvs_arr s hl;obtain⟨xv,hxv,rx⟩:=r2.get (i:=0) rfl;obtain⟨yv,hyv,ry⟩:=r2.get (i:=1) rfl;have hargs:c.args.map a.eval=#[xv,yv]:=by
   apply Array.ext
   ·exact r2.1
   ·intro j h1 h2
    have:j=0\/j=1:=by simp at h2;omega
    rcases this with rfl|rfl
    ·have:=hxv;rw[Array.getElem?_eq_getElem h1]at this;simpa using this
    ·have:=hyv;rw[Array.getElem?_eq_getElem h1]at this;simpa using this
  have h0:c.argTypes[0]? =some t:=by rw[<-Array.getElem?_toList,hts];rfl
  have h1:c.argTypes[1]? =some u:=by rw[<-Array.getElem?_toList,hts];rfl
  have fin0:∀(new:List AV),(∀e i,P.underlying t=some (.slice e)->P.info? e=some i->i.bytes <=65536->(∀e∈new,e.cells.length=i.size)->i.size≠0->Fed P C w c.argTypes o.type e i new yv)->
    OpRun P C lam ms F b a w cs ops i rest k (boxy o.op) o.dst (okO (Go.AM.appendV P F t x new)):=by
   intro new hE;cases hv:Go.AM.appendV P F t x new with
   |none=>trivial
   |some p=>
    obtain⟨v,F'⟩:=p;obtain⟨C',r,w',q1,q2,q3,q4⟩:=s.appendV (P:=P) (ty:=o.type) rx hE hv;refine Eff.opRun ⟨C',lam,r,w',.inl ?_,q2,q3,q4,fun _=>rfl⟩ ho hw hd;simp only[execOp,hop,resolve,hf,Sem.run_bind,Sem.run_pure,Result.andThen_ok,invoke,builtin,hargs,q1]
  have fin:∀(new:List AV),(P.underlying u=some .string\/∃e',P.underlying u=some (.slice e'))->(∀m,(∀e∈new,e.cells.length=m)->m≠0->ElemsR P C w m new yv)->
    OpRun P C lam ms F b a w cs ops i rest k (boxy o.op) o.dst (okO (Go.AM.appendV P F t x new)):=
   fun new hu hE=>fin0 new fun e i ht hi _ hm h0'=>Fed.elems h0 h1 ht hu hi (hE i.size hm h0')
  split
  ·rename_i hu
   split
   ·rename_i str
    refine fin _ (.inl hu) fun m hm hm0=>?_;have e:=ry.str_inv;subst e;by_cases hl0:str=[]
    ·subst hl0
     have:=ElemsR.str (P:=P) (C:=C) (w:=w) [];refine⟨this.len,fun w1 _=>⟨#[],VRs.nil C,?_⟩,by simp⟩;simp[Builtin.firstCells]
    ·have:m=1:=by
      cases str with
      |nil=>exact absurd rfl hl0
      |cons x r=>exact(hm _ (List.mem_cons_self ..)).symm
     subst this;exact ElemsR.str str
   ·trivial
  ·rename_i e' hu
   split
   ·trivial
   ·split
    ·rename_i new hnew
     exact fin _ (.inr ⟨e',hu⟩) fun m hm _=>s.elems ry hnew hm
    ·trivial
  ·rename_i kk hu
   split
   ·rename_i new hnew
    unfold zerosA at hnew;split at hnew
    ·rename_i e k' n he
     split at hnew
     ·rename_i z hz
      split at hnew
      ·rename_i hb
       cases hnew;obtain⟨nn,rfl⟩:=Int.eq_ofNat_of_zero_le hb.1;have ey:=ry.int_inv;subst ey;refine fin0 _ fun e2 i ht hi hby hm hs=>?_;have e3:e=e2:=by have:=elemT_und he;rw[ht]at this;cases this;rfl
       subst e3;obtain⟨zv,z1,z2,i',hi',hz'⟩:=run_zero (P:=P) (w:=w) (C:=C) hz;rw[hi]at hi';cases hi';have hc:=z2.cells (not_tuple hb.2.2);exact Fed.zeros h0 h1 ht hu hi hz' hc.1 hc.2 (by have:=hb.2.1;simp only[most]at this;omega) hby hs
      ·cases hnew
     ·cases hnew
    ·cases hnew
   ·trivial
  ·trivial
 ·trivial
theorem St.deferE(s:St C lam ms F b a w cs)(ho:ops[i]? =some o)(hw:Region.wanted o (yielded ops a.tmps)=true){c:Call}(hop:o.op= .defer c):OpRun P C lam ms F b a w cs ops i rest k (boxy o.op) o.dst (F.deferE c):=by
 unfold Fr.deferE;split
 ·rename_i f hf hrnd
  split
  ·rename_i g first capt l hfv hl
   obtain⟨vs,ws,e,rv,rw'⟩:=(s.opv hfv).func_inv;have r2:=opvs_arr s hl;have hro:b.roundOf=none:=by
    have:=s.rnd;cases h:b.roundOf with
    |none=>rfl
    |some l=>rw[h,hrnd]at this;cases this
   refine⟨C,lam,{ a with defers:={ target:=.fn (.func g) ws,args:=vs++c.args.map a.eval }::a.defers },cs,w,undef,.one (stepA_defer ho hw hro ?_),rfl,SR.of (VRundef C),?_,.refl _ _ _ _,.refl b cs,fun _=>rfl⟩
   ·simp only[execOp,hop,resolve,hf,e,Deferred.ofValue,Sem.run_bind,Sem.run_pure,Result.andThen_ok]
   ·exact { s with df:=.fn s.df (VRs.append rv r2) rw' }
  ·trivial
 ·trivial
theorem ef_sound{X:Ctx}{cl:FuncId->List AV->Heap->COut}{rd:Nat->List AV->Heap->COut}(hP:NoNum X.P)(hc:ClOK X.P cl)(hr:RdOK X.P rd)(s:St C lam ms F b a w cs)(ho:ops[i]? =some o)
  (hw:Region.wanted o (yielded ops a.tmps)=true):OpRun X.P C lam ms F b a w cs ops i rest k (boxy o.op) o.dst (efV X cl rd F o.dst o.op):=by
 have eff:∀{r:OOut},(∀v F',r= .val v F'->Eff X.P C lam ms F b a w cs o v F')->(∀v F',r≠.pan v F')->(∀c,o.op≠.defer c)->OpRun X.P C lam ms F b a w cs ops i rest k (boxy o.op) o.dst r:=by
  intro r h1 h2 hd;cases r with
  |val v F'=>exact(h1 v F' rfl).opRun ho hw hd
  |pan v F'=>exact absurd rfl (h2 v F')
  |fail=>trivial
 suffices main:∀op,o.op=op->OpRun X.P C lam ms F b a w cs ops i rest k (boxy o.op) o.dst (efV X cl rd F o.dst op) from main _ rfl
 intro op hop;cases op<;>simp only[efV]<;>try trivial
 case alloc t=>exact eff (fun v F' h=>s.allocE hop h) (fun v F' h=>by unfold Fr.allocE at h;split at h;exact okO_pan h;cases h) (fun c e=>by rw[hop]at e;cases e)
 case box t x=>exact eff (fun v F' h=>s.boxE hop h) (fun v F' h=>by unfold Fr.boxE at h;split at h;exact okO_pan h;cases h) (fun c e=>by rw[hop]at e;cases e)
 case store t x y=>exact eff (fun v F' h=>s.storeE hop h) (fun v F' h=>by unfold Fr.storeE at h;(repeat' split at h)<;>cases h) (fun c e=>by rw[hop]at e;cases e)
 case buildSlice t n ps=>exact eff (fun v F' h=>s.rowE hop h) (fun v F' h=>by unfold Fr.rowE at h;(repeat' split at h)<;>cases h) (fun c e=>by rw[hop]at e;cases e)
 case makeMap t r=>exact eff (fun v F' h=>s.mapE hop h) (fun v F' h=>by unfold Fr.mapE at h;(repeat' split at h)<;>cases h) (fun c e=>by rw[hop]at e;cases e)
 case makeSlice t l c=>exact eff (fun v F' h=>s.makeSliceE hop h) (fun v F' h=>by unfold Fr.makeSliceE at h;(repeat' split at h)<;>cases h) (fun c e=>by rw[hop]at e;cases e)
 case convert t u x=>exact eff (fun v F' h=>s.bytesE hop h) (fun v F' h=>by unfold Fr.bytesE at h;(repeat' split at h)<;>cases h) (fun c e=>by rw[hop]at e;cases e)
 case mapUpdate t m k x=>exact eff (fun v F' h=>s.mapUpdateE hop h) (fun v F' h=>by unfold Fr.mapUpdateE at h;(repeat' split at h)<;>cases h) (fun c e=>by rw[hop]at e;cases e)
 case range t x=>exact eff (fun v F' h=>s.rangeE hop h) (fun v F' h=>by unfold Fr.rangeE at h;(repeat' split at h)<;>cases h) (fun c e=>by rw[hop]at e;cases e)
 case next x st=>exact eff (fun v F' h=>s.nextE hop h) (fun v F' h=>by unfold Fr.nextE at h;(repeat' split at h)<;>cases h) (fun c e=>by rw[hop]at e;cases e)
 case defer c=>exact s.deferE ho hw hop
 case panic x=>
  refine s.panicE ho hw (fun c e=>by rw[hop]at e;cases e) fun t u e=>?_;simp only[execOp,hop,e,Instr.panic,Sem.run_bind,run_goPanic,Result.andThen_halt]
 case call c =>
  unfold Fr.callOp;have hd:∀c',o.op≠.defer c':=fun c' e=>by rw[hop]at e;cases e
  split
  ·rename_i f hf;exact s.callE hP hc hr ho hw hop hf
  ·rename_i x name hf;exact s.invokeE hP hc ho hw hop hf
  ·rename_i bi hf
   unfold Fr.builtinE;split
   ·exact s.appendE ho hw hop hf
   ·split
    ·rename_i x hx
     refine s.panicE ho hw hd fun t u e=>?_;have hargs:(c.args.map a.eval).getD 0 .nilIface= .iface t u:=by
      have:c.args=#[x]:=Array.toList_inj.1 hx;rw[this];simp[Array.getD,e]
     simp only[execOp,hop,resolve,hf,Sem.run_bind,Sem.run_pure,Result.andThen_ok,invoke,builtin,hargs,Instr.panic,run_goPanic,Result.andThen_halt]
    ·trivial
   ·split
    ·refine s.recoverE ho hw hd ?_
     simp only[execOp,hop,resolve,hf,Sem.run_bind,Sem.run_pure,Result.andThen_ok,invoke,builtin]
    ·trivial
   ·trivial
end
end Go.AM
namespace Go.AM
open Go
variable[Keep]
def Fin(C:Cfg)(lam:Nat->Option Nat)(ms:List Nat)(F:Fr)(b:Frame)(a:Act)(w:World)(cs:List Frame)(F':Fr)(C':Cfg)(lam':Nat->Option Nat)(ms':List Nat)(a':Act)(cs':List Frame)(w':World):Prop:=
 a'.tmps.size=a.tmps.size/\St C' lam' ms' F' b a' w' cs'/\Ext C F.hp (Own lam ms) w C' F'.hp (Own lam' ms') w'/\CsR b cs cs'
def Outs(P:Program)(m:Machine)(C:Cfg)(lam:Nat->Option Nat)(ms:List Nat)(F:Fr)(b:Frame)(a:Act)(w:World)(cs:List Frame)(k:List Item):Out->Prop
 | .norm F'=>∃C' lam' ms' a' cs' w',Steps P m (lone (b.atR a' k) cs' w')/\Fin C lam ms F b a w cs F' C' lam' ms' a' cs' w'
 | .exit id F'=>∃C' lam' ms' a' cs' w' k1,Steps P m (lone (b.atR a' (.code (.exit id)::k1)) cs' w')/\exitTo id k1=exitTo id k/\Fin C lam ms F b a w cs F' C' lam' ms' a' cs' w'
 | .ret F'=>∃C' lam' ms' a' cs' w' k1,Steps P m (lone (b.atR a' (.code .ret::k1)) cs' w')/\Fin C lam ms F b a w cs F' C' lam' ms' a' cs' w'
 | .pan v F'=>∃C' lam' ms' a' cs' w' todo u,Steps P m (lone { b.atR a' todo with mode:=Pan u } cs' w')/\VR C' v u/\Fin C lam ms F b a w cs F' C' lam' ms' a' cs' w'
 | .fail=>True
def CodeOK(P:Program)(ev:Code->Fr->Out):Prop:=
 ∀(c:Code) (F:Fr) (C:Cfg) (lam:Nat->Option Nat) (ms:List Nat) (b:Frame) (a:Act) (w:World) (cs:List Frame) (k:List Item),St C lam ms F b a w cs->codeOk a.tmps.size c=true->
  Outs P (lone (b.atR a (.code c::k)) cs w) C lam ms F b a w cs k (ev c F)
section
variable{P:Program}{w w':World}{C:Cfg}{lam:Nat->Option Nat}{ms:List Nat}{F:Fr}{b:Frame}{a:Act}{cs:List Frame}{k:List Item}
theorem Fin.refl(s:St C lam ms F b a w cs):Fin C lam ms F b a w cs F C lam ms a cs w:=⟨rfl,s,.refl _ _ _ _,.refl b cs⟩
theorem Fin.trans{F' F'':Fr}{C' C'':Cfg}{lam' lam'':Nat->Option Nat}{ms' ms'':List Nat}{a' a'':Act}{cs' cs'':List Frame}{w' w'':World}(h:Fin C lam ms F b a w cs F' C' lam' ms' a' cs' w')
  (h':Fin C' lam' ms' F' b a' w' cs' F'' C'' lam'' ms'' a'' cs'' w''):Fin C lam ms F b a w cs F'' C'' lam'' ms'' a'' cs'' w'':=
 ⟨h'.1.trans h.1,h'.2.1,h.2.2.1.trans h'.2.2.1,h.2.2.2.trans h'.2.2.2⟩
theorem Outs.head{F1:Fr}{C1:Cfg}{lam1:Nat->Option Nat}{ms1:List Nat}{a1:Act}{cs1:List Frame}{w1:World}{m m1:Machine}{o:Out}(hs:Steps P m m1)(hf:Fin C lam ms F b a w cs F1 C1 lam1 ms1 a1 cs1 w1)
  (h:Outs P m1 C1 lam1 ms1 F1 b a1 w1 cs1 k o):Outs P m C lam ms F b a w cs k o:=by
 cases o with
 |norm F'=>obtain⟨C',lam',ms',a',cs',w',h1,h2⟩:=h;exact⟨C',lam',ms',a',cs',w',hs.trans h1,hf.trans h2⟩
 |exit id F'=>obtain⟨C',lam',ms',a',cs',w',k1,h1,h3,h2⟩:=h;exact⟨C',lam',ms',a',cs',w',k1,hs.trans h1,h3,hf.trans h2⟩
 |ret F'=>obtain⟨C',lam',ms',a',cs',w',k1,h1,h2⟩:=h;exact⟨C',lam',ms',a',cs',w',k1,hs.trans h1,hf.trans h2⟩
 |pan v F'=>obtain⟨C',lam',ms',a',cs',w',todo,u,h1,h3,h2⟩:=h;exact⟨C',lam',ms',a',cs',w',todo,u,hs.trans h1,h3,hf.trans h2⟩
 |fail=>trivial
theorem Outs.behind{x:Item}{m:Machine}{o:Out}(hx:∀id,exitTo id (x::k)=exitTo id k)(hn:∀F',o≠.norm F')(h:Outs P m C lam ms F b a w cs (x::k) o):Outs P m C lam ms F b a w cs k o:=by
 cases o with
 |norm F'=>exact absurd rfl (hn F')
 |exit id F'=>obtain⟨C',lam',ms',a',cs',w',k1,h1,h3,h2⟩:=h;exact⟨C',lam',ms',a',cs',w',k1,h1,h3.trans (hx id),h2⟩
 |ret F'=>exact h
 |pan v F'=>exact h
 |fail=>trivial
theorem yielded_ok(s:St C lam ms F b a w cs){ops:Array Oper}{o o':Oper}{j:Nat}{want:Bool}(hg:o.guard=some (j,want))(h:guardOk ops F o=true):yielded ops a.tmps j=yieldedA ops F j:=by
 unfold guardOk at h;rw[hg]at h;simp only at h;unfold yielded yieldedA;cases hj:ops[j]? with
 |none=>rfl
 | some p =>
  rw[hj]at h;simp only[Option.bind_some]at h ⊢;cases hd:p.dst with
  |none=>rfl
  | some t =>
   rw[hd]at h;simp only[Option.bind_some]at h ⊢;have hs:=s.env t;have e1:F.tmp t=match F.e.get t with|some v=>v|none=>undefA:=rfl
   have key:∀(v:Value),a.tmps.getD t undef=v->(∀bb,v≠.bool bb)->(match a.tmps[t]? with|some (.bool b)=>some b|_=>none)=(none:Option Bool):=by
    intro v hv hne;rw[Array.getD_eq_getD_getElem?]at hv;cases ht:a.tmps[t]? with
    |none=>rfl
    |some u=>
     rw[ht]at hv;simp at hv;subst hv;cases u<;>first|rfl|exact absurd rfl (hne _)
   cases he:F.e.get t with
   |none=>
    rw[e1,he]at hs;refine key _ rfl fun bb e=>?_;rw[e]at hs;cases hs
   | some v =>
    rw[e1,he]at hs;simp only at hs;cases v with
    | bool bb =>
     cases hs':a.tmps.getD t undef with
     | bool b2 =>
      rw[hs']at hs;have:b2=bb:=by
       have h2:VR C (.bool bb) (.bool b2):=hs;cases h2;rfl
      subst this;rw[Array.getD_eq_getD_getElem?]at hs';cases ht:a.tmps[t]? with
      |none=>rw[ht]at hs';simp[undef]at hs'
      |some u=>rw[ht]at hs';simp at hs';subst hs';rfl
     |_=>rw[hs']at hs;have h2:VR C (.bool bb) _:=hs;cases h2
    |junk=>rw[he]at h;simp at h
    |lptr s' g off=>
     refine key _ rfl fun bb e=>?_;obtain⟨_,_,_,_,_,h3,_⟩:=hs;rw[h3]at e;cases e
    |_=>
     refine key _ rfl fun bb e=>?_;rw[e]at hs;have h2:VR C _ _:=hs;cases h2
theorem wanted_ok(s:St C lam ms F b a w cs){ops:Array Oper}{o:Oper}(h:guardOk ops F o=true):Region.wanted o (yielded ops a.tmps)=wantedA ops F o:=by
 unfold Region.wanted wantedA;cases hg:o.guard with
 |none=>rfl
 |some p=>
  obtain⟨j,want⟩:=p;simp only;rw[yielded_ok s (o':=o) hg h]
def StepRun(P:Program)(C:Cfg)(lam:Nat->Option Nat)(ms:List Nat)(F:Fr)(b:Frame)(a:Act)(w:World)(cs:List Frame)(ops:Array Oper)(i:Nat)(rest:List Nat)(k:List Item)(bx:Bool):OOut->Prop
 | .val v F'=>∃C' lam' a' cs' w',Steps P (lone (b.atR a (.inRegion ops (i::rest)::k)) cs w) (lone (b.atR a' (.inRegion ops rest::k)) cs' w')/\Fin C lam ms F b a w cs F' C' lam' ms a' cs' w'/\(bx=false->lam'=lam)
 | .pan v F'=>∃C' lam' a' cs' w' u,Steps P (lone (b.atR a (.inRegion ops (i::rest)::k)) cs w) (lone { b.atR a' (.inRegion ops (i::rest)::k)with mode:=Pan u } cs' w')/\VR C' v u/\Fin C lam ms F b a w cs F' C' lam' ms a' cs' w'/\(bx=false->lam'=lam)
 | .fail=>True
theorem fin_hp(F:Fr)(d:Option Tmp)(v:AV):(F.put d v).hp=F.hp:=by cases d<;>rfl
theorem fin_put_op{F':Fr}{C':Cfg}{lam':Nat->Option Nat}{a':Act}{cs':List Frame}{w':World}{d:Option Tmp}{v:AV}{u:Value}(ht:a'.tmps=a.tmps)(hd:∀t,d=some t->t<a.tmps.size)(hr:SR C' lam' F'.lm v u)
  (hs:St C' lam' ms F' b a' w' cs') (he:Ext C F.hp (Own lam ms) w C' F'.hp (Own lam' ms) w') (hc:CsR b cs cs'):Fin C lam ms F b a w cs (F'.put d v) C' lam' ms (a'.put d u) cs' w':=
 ⟨by rw[Act.put_size,ht],hs.put hr (fun t e=>by rw[ht];exact hd t e),by rw[fin_hp];exact he,hc⟩
theorem stepOp_ok{X:Ctx}{cl:FuncId->List AV->Heap->COut}{rd:Nat->List AV->Heap->COut}(hP:NoNum X.P)(hc:ClOK X.P cl)(hr:RdOK X.P rd)(s:St C lam ms F b a w cs){ops:Array Oper}{i:Nat}{rest:List Nat}{o:Oper}
  (ho:ops[i]? =some o) (hd:∀t,o.dst=some t->t<a.tmps.size) (hal:isAlloc o=true->isEffAt X F.f o=true):StepRun X.P C lam ms F b a w cs ops i rest k (boxy o.op) (stepOp X cl rd ops o F):=by
 unfold stepOp;split
 ·trivial
 ·rename_i hg
  have hg:guardOk ops F o=true:=by simpa using hg
  have hw:=wanted_ok s hg;split
  ·rename_i hwa
   rw[hwa]at hw;split
   ·have:=ef_sound (k:=k) (rest:=rest) hP hc hr s ho hw
    split
    ·rename_i v F' e
     rw[e]at this;obtain⟨C',lam',a',cs',w',u,h1,h2,h3,h4,h5,h6,h7⟩:=this;exact⟨C',lam',_,cs',w',h1,fin_put_op h2 hd h3 h4 h5 h6,h7⟩
    ·rename_i r hne
     revert this;cases hr:efV X cl rd F o.dst o.op with
     |val v F'=>intro _;exact absurd hr (hne v F')
     |pan v F'=>
      intro this;obtain⟨C',lam',a',cs',w',u,h1,h2,h3,h4,h5,h6,h7⟩:=this;exact⟨C',lam',a',cs',w',u,h1,h3,⟨by rw[h2],h4,h5,h6⟩,h7⟩
     |fail=>intro _;trivial
   ·rename_i hne
    split
    ·rename_i v hv
     have hna:isAlloc o=false:=by
      cases h:isAlloc o with
      |false=>rfl
      |true=>exact absurd (hal h) hne
     obtain⟨u,w',C',h1,h2,h3,h4⟩:=rd_sound s hna hv;have hdf:∀c,o.op≠.defer c:=fun c e=>by rw[e]at hv;simp[rdV]at hv
     exact⟨C',lam,_,cs,w',.one (stepA_value ho hw hdf h1),fin_put_op rfl hd h2 h3 h4 (.refl b cs),fun _=>rfl⟩
    ·trivial
  ·rename_i hwa
   have hwf:wantedA ops F o=false:=by simpa using hwa
   rw[hwf]at hw;have hst:=stepR_op_skip (P:=X.P) (b:=b) (a:=a) (k:=k) (cs:=cs) (w:=w) (ops:=ops) (i:=i) (rest:=rest) (by rw[ho];simp[hw]);rw[ho]at hst;exact⟨C,lam,_,cs,w,.one hst,fin_put_op rfl hd (SR.of (VRundef C)) s (.refl _ _ _ _) (.refl b cs),fun _=>rfl⟩
theorem runOps_ok{X:Ctx}{cl:FuncId->List AV->Heap->COut}{rd:Nat->List AV->Heap->COut}(hP:NoNum X.P)(hc:ClOK X.P cl)(hr:RdOK X.P rd){ops:Array Oper} :
  ∀(l:List Oper) (i:Nat) (C:Cfg) (lam:Nat->Option Nat) (ms:List Nat) (F:Fr) (a:Act) (w:World) (cs:List Frame),St C lam ms F b a w cs->(∀j o,l[j]? =some o->ops[i+j]? =some o)->dstsLt a.tmps.size l=true->
   Outs X.P (lone (b.atR a (.inRegion ops (List.range' i l.length)::k)) cs w) C lam ms F b a w cs k (runOps X cl rd ops l F):=by
 intro l;induction l with
 |nil=>intro i C lam ms F a w cs s _ _;exact⟨C,lam,ms,a,cs,w,.one stepR_region_end,.refl s⟩
 | cons o l ih =>
  intro i C lam ms F a w cs s hl hd;simp only[dstsLt,List.all_cons,Bool.and_eq_true]at hd;have ho:ops[i]? =some o:=by have:=hl 0 o rfl;simpa using this
  have hdst:∀t,o.dst=some t->t<a.tmps.size:=fun t e=>by have:=hd.1;rw[e]at this;simpa using this
  have h1:=stepOp_ok (X:=X) (k:=k) (rest:=List.range' (i+1) l.length) hP hc hr s ho hdst (fun h=>by
   unfold isAlloc at h;unfold isEffAt;split at h
   ·rename_i t e;rw[e]
   ·cases h)
  simp only[runOps,List.length_cons,List.range'_succ];split
  ·rename_i v F' e
   rw[e]at h1;obtain⟨C',lam',a',cs',w',h2,h3,_⟩:=h1;refine Outs.head h2 h3 (ih (i+1) C' lam' ms F' a' w' cs' h3.2.1 (fun j o' hj=>by
    have:=hl (j+1) o' (by simpa using hj)
    rwa [show i+(j+1)=i+1+j from by omega]at this) (by rw[h3.1];exact hd.2))
  ·rename_i v F' e
   rw[e]at h1;obtain⟨C',lam',a',cs',w',u,h2,h4,h3,_⟩:=h1;exact⟨C',lam',ms,a',cs',w',_,u,h2,h4,h3⟩
  ·trivial
end
end Go.AM
namespace Go.AM
open Go
variable[Keep]
section
variable{P:Program}{w w':World}{C:Cfg}{lam:Nat->Option Nat}{ms:List Nat}{F:Fr}{b:Frame}{a:Act}{cs:List Frame}{k:List Item}
theorem Ext.close{C C':Cfg}{h h':Heap}{w w':World}{O O':Nat->Prop}(e:Ext C h O w C' h' O' w')(hO:∀ β,¬O β):Ext C h (fun _=>False) w C' h' (fun _=>False) w' where
 le:=e.le
 os:=e.os
 tape:=e.tape
 output:=e.output
 size:=e.size
 same β hb hl _:=e.same β hb hl (hO β)
 live β hb l:=(e.live β hb l).imp id fun o=>(hO β o).elim
 own _ _ o:=o.elim
 sig x v hb s:=by
  rcases e.sig x v hb s with s|l|o
  ·exact .inl s
  ·exact .inr (.inl l)
  ·exact(hO _ o).elim
 next:=e.next
theorem own_none(β:Nat):¬Own (fun _=>none) [] β:=by
 rintro(⟨s,h⟩|h)
 ·cases h
 ·simp at h
def Frozen(C:Cfg)(h:Heap)(w:World)(v':AV)(u:Value)(h':Heap):Prop:=∃C',VR C' v' u/\WR C' h' w/\Ext C h (fun _=>False) w C' h' (fun _=>False) w
def sigOver(C:Cfg)(B:Nat)(c:Array Value):Cfg:={ C with sig:=fun x=>if x.block=B/\x.spot=none then c[x.off]? else C.sig x }
theorem frz1_ok {h h' : Heap} {v v' : AV} {u : Value} (r : WR C h w) (hv : VR C v u) (h1 : frz1 h v = some (v', h')) : Frozen C h w v' u h' := by
  unfold frz1 at h1;split at h1
  · rename_i id off len
    split at h1
    · rename_i sz el hg
      split at h1
      · rename_i hle
        cases h1;obtain⟨L,e1,c,f1,f2,f3,f4,f5⟩:=r.blk id _ hg;have hlv:Live C h L.b:=⟨id,_,L,hg,e1,rfl⟩;have hCle:C.le (sigOver C L.b c):=⟨fun _ _ h=>h,fun x y hx=>by
          have:=r.apart id _ L x y hg e1 hx;simp only[sigOver];rw[if_neg (fun e=>this e.1)];exact hx⟩
        obtain⟨r1,x1⟩:=WR.del r id;have hget:∀j bj,(h.del id).get j=some bj->j≠id/\h.get j=some bj:=fun j bj hj=>by
          rw[Heap.get_del]at hj;split at hj
          · cases hj
          · rename_i hne;exact⟨fun e=>hne e.symm,hj⟩
        refine⟨sigOver C L.b c,?_,⟨fun x y hx=>?_,fun j bj hj=>?_,fun j1 j2 b1 b2 L1 L2 g1 g2=>r1.inj j1 j2 b1 b2 L1 L2 g1 g2,fun j bj Lj x y hj hLj hx=>?_,r1.fresh,r.base.on hCle.sig (fun _ _ _=>rfl)⟩,?_⟩
        · cases hv with
          | row A e2 k1 k2 k3 =>
            rename_i cap L';rw[e1]at e2;cases e2;have hlen:((el.drop off).take len).length=len:=by simp;omega
            rcases k2 with rfl|rfl
            · have : len = 0 := by omega
              subst this;have:(el.drop off).take 0=[]:=rfl;rw[this];exact .vslice0 _ _
            · have hf : FlatR (sigOver C L.b c) sz ((el.drop off).take len) c (L.o + off * sz) := fun i e hi => by
                rw[List.getElem?_take]at hi;split at hi
                · rw [List.getElem?_drop] at hi
                  obtain⟨q1,q2,q3⟩:=f5 (off+i) e hi;refine⟨q1,q2,fun j x hx=>?_⟩;obtain⟨y,hy,hr⟩:=q3 j x hx;refine⟨y,?_,hr.mono hCle⟩;rw[<-hy,Nat.add_mul]
                  congr 1
                  omega
                · cases hi
              have hbd:L.o+off * sz+((el.drop off).take len).length * sz <=c.size:=by
                rw[hlen];have:(off+len) * sz <=el.length * sz:=Nat.mul_le_mul_right _ hle;rw[Nat.add_mul]at this;omega
              have:=slice_of_flat (C:=sigOver C L.b c) (B:=L.b) (o:=L.o+off * sz) (cap:=cap) hf (fun k hk=>by simp[sigOver]) (by rw[hlen];exact k1) hbd;rw[hlen]at this;rw[f2];exact this
        · simp only [sigOver] at hx
          split at hx
          · rename_i hb
            obtain⟨xb,xo,xs⟩:=x;simp only at hb hx;obtain⟨rfl,rfl⟩:=hb;rw[f1.cell];exact hx
          · exact r.sig x y hx
        · obtain ⟨Lj, k1, k2⟩ := r1.blk j bj hj
          exact⟨Lj,k1,k2.same hCle rfl⟩
        · obtain ⟨hne, hj'⟩ := hget j bj hj
          simp only[sigOver]at hx;split at hx
          · rename_i hb
            intro e;exact hne (r.inj j id bj _ Lj L hj' hg hLj e1 (e.symm.trans hb.1))
          · exact r.apart j bj Lj x y hj' hLj hx
        · exact { le := hCle, os := rfl, tape := rfl, output := rfl, size := Nat.le_refl _, same := fun _ _ _ _ => rfl, live := fun β hb l => x1.live β hb l, own := fun _ _ o => o.elim,
                  sig:=fun x y _ hx=>by
                    simp only[sigOver]at hx;split at hx
                    · rename_i hb;exact .inr (.inl (hb.1▸hlv))
                    · exact .inl hx,next:=Nat.le_refl _ }
      · cases h1
    · cases h1
  · cases h1
    exact⟨C,hv,r,.refl _ _ _ _⟩
theorem frzCells_ok {f : Heap -> AV -> Option (AV × Heap)} (hf : ∀ (C : Cfg) (h h' : Heap) (v v' : AV) (u : Value), WR C h w -> VR C v u -> f h v = some (v', h') -> Frozen C h w v' u h') :
    ∀(l l':List AV) (C:Cfg) (h h':Heap) (us:Array Value),WR C h w->VRs C l us->frzCells h f l=some (l',h')->∃C',VRs C' l' us/\WR C' h' w/\Ext C h (fun _=>False) w C' h' (fun _=>False) w/\l'.length=l.length:=by
  intro l;induction l with
  |nil=>intro l' C h h' us r hv e;simp[frzCells]at e;obtain⟨rfl,rfl⟩:=e;exact⟨C,hv,r,.refl _ _ _ _,rfl⟩
  | cons x l ih =>
    intro l' C h h' us r hv e;simp only[frzCells]at e;split at e
    · rename_i v1 h1 e1
      split at e
      · rename_i l1 h2 e2
        cases e;obtain⟨u0,hu0,r0⟩:=hv.get (i:=0) rfl;obtain⟨C1,q1,q2,q3⟩:=hf C h h1 x v1 u0 r r0 e1;have hne:0<us.size:=by rw[hv.1];simp
        have htl:VRs C l (us.extract 1 us.size):=by
          refine VRs.of_get (by simp[hv.1]) fun i y hy=>?_;obtain⟨u,hu,hr⟩:=hv.get (i:=i+1) (by simpa using hy);refine⟨u,?_,hr⟩;rw[Array.getElem?_extract,if_pos (by have:=lt_of_get hy;rw[hv.1];simp;omega),Nat.add_comm];exact hu
        obtain⟨C2,p1,p2,p3,p4⟩:=ih l1 C1 h1 h' _ q2 (htl.mono q3.le) e2;refine⟨C2,?_,p2,q3.trans p3,by simp[p4]⟩;have:=VRs.cons (q1.mono p3.le) p1;have e3:#[u0]++us.extract 1 us.size=us:=by
          have h0:us[0]'hne=u0:=by rw[Array.getElem?_eq_getElem hne]at hu0;simpa using hu0
          apply Array.ext';have hl:us.toList=us[0]'hne::us.toList.drop 1:=by
            cases hus:us.toList with
            | nil => have : us.size = 0 := by rw [<- Array.length_toList, hus]; rfl
                     omega
            | cons y r => have : us[0]'hne = y := by simp [<- Array.getElem_toList, hus]
                          rw[this];rfl
          simp[h0];rw[hl,h0];simp[List.take_of_length_le]
        rw[e3]at this;exact this
      · cases e
    · cases e
theorem frzCells_one{h h':Heap}:∀{l l':List AV} {h h':Heap},frzCells h frz1 l=some (l',h')->(∀x∈l,x.one=true)->∀x∈l',x.one=true:=by
 intro l;induction l with
 |nil=>intro l' h h' e _;simp[frzCells]at e;obtain⟨rfl,rfl⟩:=e;simp
 | cons x l ih =>
  intro l' h h' e h1;simp only[frzCells]at e;split at e
  ·rename_i v1 h1' e1
   split at e
   ·rename_i l1 h2 e2
    cases e;have hx:=h1 x (by simp);have hv1:v1.one=true:=by
     unfold frz1 at e1;split at e1
     ·split at e1
      ·split at e1
       ·cases e1;rfl
       ·cases e1
      ·cases e1
     ·cases e1;exact hx
    intro y hy;rcases List.mem_cons.1 hy with rfl|hy
    ·exact hv1
    ·exact ih e2 (fun z hz=>h1 z (by simp[hz])) y hy
   ·cases e
  ·cases e
theorem frz2_ok(C:Cfg)(h h':Heap)(v v':AV)(u:Value)(r:WR C h w)(hv:VR C v u)(h1:frz2 h v=some (v',h')):Frozen C h w v' u h':=by
 unfold frz2 at h1;split at h1
 ·rename_i cs
  split at h1
  ·rename_i l h2 e
   cases h1;obtain⟨us,rfl,rv,ro⟩:=hv.agg_inv;obtain⟨C',q1,q2,q3,_⟩:=frzCells_ok (w:=w) (fun C h h' v v' u r hv e=>frz1_ok r hv e) _ _ C h h' us r rv e;exact⟨C',.agg q1.1 q1.2 (frzCells_one (h:=h) (h':=h') e ro),q2,q3⟩
  ·cases h1
 ·exact frz1_ok r hv h1
theorem VR.tuple_inv{l:List AV}{v:Value}(h:VR C (.tuple l) v):∃vs,v= .tuple vs/\VRs C l vs:=by
 cases h with
 |tuple h1 h2=>exact⟨_,rfl,h1,h2⟩
theorem freeze_ok{h h':Heap}{v v':AV}{u:Value}(r:WR C h w)(hv:VR C v u)(h1:freeze h v=some (v',h')):Frozen C h w v' u h':=by
 unfold freeze at h1;split at h1
 ·rename_i vs
  split at h1
  ·rename_i l h2 e
   cases h1;obtain⟨us,rfl,rv⟩:=hv.tuple_inv;obtain⟨C',q1,q2,q3,_⟩:=frzCells_ok (w:=w) (fun C h h' v v' u r hv e=>frz2_ok C h h' v v' u r hv e) _ _ C h h' us r rv e;exact⟨C',.tuple q1.1 q1.2,q2,q3⟩
  ·cases h1
 ·exact frz2_ok C h h' v v' u r hv h1
end
end Go.AM
namespace Go.AM
open Go
variable[Keep]
section
variable{P:Program}{w w':World}{C:Cfg}{lam:Nat->Option Nat}{ms:List Nat}{F:Fr}{b:Frame}{a:Act}{cs:List Frame}{k:List Item}
def resM(tmps:Array Value):ResultVar->Sem Value
 | .tmp t=>pure (tmps.getD t undef)
 | .cell a t=>do loadVar t (<-asAddr (tmps.getD a undef))
theorem resultV_ok(s:St C lam ms F b a w cs){r:ResultVar}{v:AV}(h:resultV P F r=some v):∃u,(resM a.tmps r).run P w= .ok u w/\VR C v u:=by
 cases r with
 |tmp t=>exact⟨_,rfl,s.opv (x:=.tmp t) h⟩
 | cell x t =>
  simp only[resultV]at h;split at h
  ·rename_i cells off hm
   obtain⟨B,O,e,hr⟩:=s.mem (s.env x) hm;obtain⟨u,h1,h2⟩:=run_loadVar (P:=P) hr h;refine⟨u,?_,h2⟩;simp only[resM,e,asAddr,Sem.run_bind,Sem.run_pure,Result.andThen_ok,h1]
  ·cases h
theorem resultsV_ok(s:St C lam ms F b a w cs):∀(rs:List ResultVar) (l:List AV),resultsV P F rs=some l->∃us:List Value,(rs.mapM (resM a.tmps)).run P w= .ok us w/\VRs C l us.toArray:=by
 intro rs;induction rs with
 |nil=>intro l h;simp[resultsV]at h;subst h;exact⟨[],rfl,VRs.nil C⟩
 | cons r rs ih =>
  intro l h;simp only[resultsV]at h;split at h
  ·rename_i v l' h1 h2
   cases h;obtain⟨u,q1,q2⟩:=resultV_ok s h1;obtain⟨us,p1,p2⟩:=ih l' h2;refine⟨u::us,?_,by simpa using VRs.cons q2 p2⟩;simp[List.mapM_cons,q1,p1]
  ·cases h
theorem results_ok(s:St C lam ms F b a w cs){fn:Func}{l:List AV}(h:resultsV P F fn.results.toList=some l):∃u,(results fn a.tmps).run P w= .ok u w/\VR C (tupleOf l) u:=by
 obtain⟨us,h1,h2⟩:=resultsV_ok s _ _ h;have hm:(fn.results.mapM (resM a.tmps)).run P w= .ok us.toArray w:=by
  rw[Array.mapM_eq_mapM_toList];simp only[Sem.run_map,h1,Result.andThen_ok]
 have hres:(results fn a.tmps).run P w= .ok (if h:us.toArray.size=1 then us.toArray[0]else .tuple us.toArray) w:=by
  have e:results fn a.tmps=(do let vs <-fn.results.mapM (resM a.tmps);pure (if h:vs.size=1 then vs[0]else .tuple vs)):=by
   unfold results;have:(fun r:ResultVar=>(match r with| .tmp t=>pure (a.tmps.getD t undef)| .cell x t=>do loadVar t (<-asAddr (a.tmps.getD x undef)):Sem Value))=resM a.tmps:=by
    funext r
    cases r<;>rfl
   rw[<-this];rfl
  rw[e];simp only[Sem.run_bind,hm,Result.andThen_ok,Sem.run_pure]
 refine⟨_,hres,?_⟩
 match l,us,h2 with
 | [],us,h2=>
  have:us=[]:=List.eq_nil_of_length_eq_zero (by simpa using h2.1);subst this;exact .tuple rfl (fun i hi=>by simp at hi)
 | [x],us,h2=>
  obtain⟨y,rfl⟩:=List.length_eq_one_iff.1 (show us.length=1 by simpa using h2.1);have:=h2.2 0 (by simp);simpa[tupleOf]using this
 |x::y::r,us,h2=>
  have hne:¬us.toArray.size=1:=by have:=h2.1;simp at this ⊢;omega
  rw[dif_neg hne];exact .tuple h2.1 h2.2
theorem St.takeMark{r:Nat}{d:Deferred}{ds:List Deferred}(s:St C lam (r::ms) F b a w cs)(hdf:DfR C F.df ds ms) :
    (Instr.takeDeferred r).run P w= .ok [] { w with heap:=w.heap.setIfInBounds r (.deferred none) } /\
    St C lam ms F b { a with defers:=ds } { w with heap:=w.heap.setIfInBounds r (.deferred none) } cs /\
    Ext C F.hp (Own lam (r::ms)) w C F.hp (Own lam ms) { w with heap:=w.heap.setIfInBounds r (.deferred none) }:=by
  have hm:=s.mark r (by simp);have hown:Own lam (r::ms) r:=.inr (by simp);have hsub:∀ β,Own lam ms β->Own lam (r::ms) β:=fun β h=>h.imp id (List.mem_cons_of_mem _);have hne:∀ β,β≠r->(w.heap.setIfInBounds r (.deferred none))[β]? =w.heap[β]?:=fun β h=>heap_set_other h;have hnd:=List.nodup_cons.1 s.nodup;refine⟨?_,?_,?_⟩
  · simp only[Instr.takeDeferred,Sem.run_bind,run_getObj hm (fun _ _ _ h=>by cases h),Result.andThen_ok,run_setObj hm (fun _ _ _ h=>by cases h),Sem.run_pure]
  · refine { wr := ⟨fun x v h => ?_, fun id blk h => ?_, s.wr.inj, s.wr.apart, s.wr.fresh, s.wr.base.on (fun _ _ e => e) (fun x v e => hne _ (s.osig r x v hown e))⟩, env := s.env, box := fun t β ht => ?_, inj := s.inj, mark := fun m hm' => ?_, nodup := hnd.2, live := fun β ho => s.live β (hsub β ho),
             osig:=fun β x v ho=>s.osig β x v (hsub β ho),df:=hdf,up:=s.up,fn:=s.fn,rnd:=s.rnd }
    · have := s.wr.sig x v h
      have hx:=s.osig r x v hown h;unfold World.cell? at this ⊢;rw[hne _ hx];exact this
    · obtain ⟨L, k1, k2⟩ := s.wr.blk id blk h
      exact⟨L,k1,k2.same (.refl C) (hne _ fun e=>s.live r hown ⟨id,blk,L,h,k1,e⟩)⟩
    · obtain ⟨g, cells, c, k1, k2, k3, k4⟩ := s.box t β ht
      refine⟨g,cells,c,k1,k2.same (hne _ fun e=>?_),k3,k4⟩;obtain⟨T,lo,hi,k5,_⟩:=k2;rw[e,hm]at k5;cases k5
    · exact(hne m fun e=>hnd.1 (e▸hm')).trans (s.mark m (List.mem_cons_of_mem _ hm'))
  · exact { le := .refl C, os := rfl, tape := rfl, output := rfl, size := by simp, same := fun β _ _ ho => hne β fun e => ho (e ▸ hown), live := fun β _ l => .inl l, own := fun β _ o => .inr (hsub β o),
            sig:=fun _ _ _ h=>.inl h,next:=Nat.le_refl _ }
theorem unwind_marks:∀(ds:List Deferred) (ms:List Nat) (a:Act) (w:World) (todo:List Item) (M:FrameMode),a.defers=ds->M≠.run->F.df=[]->St C lam ms F b a w cs->
  ∃w',Steps P (lone { b.atR a todo with mode:=M } cs w) (lone { b.atR { a with defers:=[] } todo with mode:=M } cs w')/\St C lam [] F b { a with defers:=[] } w' cs/\Ext C F.hp (Own lam ms) w C F.hp (Own lam []) w':=by
 intro ds;induction ds with
 |nil=>
  intro ms a w todo M hd hM hF s;have hdf:=s.df;rw[hF,hd]at hdf;cases hdf;obtain⟨t,d⟩:=a;simp only at hd;subst hd;exact⟨w,.refl _ _,s,.refl _ _ _ _⟩
 | cons d ds ih =>
  intro ms a w todo M hd hM hF s;have hdf:=s.df;rw[hF,hd]at hdf;cases hdf with
  |mark r hr=>
   rename_i ms;have hr':DfR C F.df ds ms:=by rw[hF];exact hr
   obtain⟨h1,h2,h3⟩:=s.takeMark (P:=P) (d:={ target:=.collected r,args:=#[] }) hr';obtain⟨w',q1,q2,q3⟩:=ih ms { a with defers:=ds } _ todo M rfl hM hF h2
   refine⟨w',.head (step_collected (fr:={ b.atR a todo with mode:=M }) (d:={ target:=.collected r,args:=#[] }) hM hd rfl h1) q1,q2,h3.trans q3⟩
def entryFr(f:FuncId)(args:List AV)(h:Heap)(up:Option (AV×Bool)):Fr:={ f,rnd:=false,e:=entryEnv args 0 .nil,lm:=.nil,hp:=h,df:=[],up }
def entryB(f:FuncId)(kind:CallKind):Frame:={ (default:Frame)with fn:=f,kind:=kind,roundOf:=none }
def entryA(fn:Func)(vs:Array Value):Act:={ tmps:=vs++Array.replicate (fn.ntmps - vs.size) undef,defers:=[] }
theorem entryEnv_get:∀(args:List AV) (i:Nat) (e:Mp AV) (t:Nat),(entryEnv args i e).get t=if i <=t/\t<i+args.length then args[t - i]? else e.get t:=by
 intro args;induction args with
 |nil=>intro i e t;simp[entryEnv];omega
 | cons v r ih =>
  intro i e t;simp only[entryEnv,ih,Mp.get_set,List.length_cons];by_cases h1:t=i
  ·subst h1
   rw[if_neg (by omega),if_pos rfl,if_pos (by omega)];simp
  ·by_cases h2:i+1 <=t/\t<i+1+r.length
   ·rw[if_pos h2,if_pos (by omega),show t - i=t - (i+1)+1 from by omega]
    simp
   ·rw[if_neg h2,if_neg (fun e=>h1 e.symm),if_neg (by omega)]
theorem St.entry{h:Heap}(r:WR C h w){args:List AV}{vs:Array Value}(hv:VRs C args vs){fn:Func}{f:FuncId}{kind:CallKind}{up:Option (AV×Bool)}(hup:UpR C kind up cs) :
  St C (fun _=>none) [] (entryFr f args h up) (entryB f kind) (entryA fn vs) w cs where
 wr:=r
 env t := by
  show SR C _ _ (Fr.tmp _ t) _;unfold Fr.tmp;simp only[entryFr,entryEnv_get,Mp.get_nil,Nat.zero_add,Nat.zero_le,true_and,Nat.sub_zero];have hsz:vs.size=args.length:=hv.1;by_cases ht:t<args.length
  ·rw[if_pos ht]
   have hlt:t<vs.size:=Nat.lt_of_lt_of_eq ht hsz.symm;have hv':=hv.2 t ht;have e1:args[t]? =some args[t]:=by simp[ht]
   have e2:args.getD t .junk=args[t]:=by simp[List.getD,ht]
   have e3:(entryA fn vs).tmps.getD t undef=vs.getD t undef:=by
    simp[entryA,Array.getD_eq_getD_getElem?,Array.getElem?_append,hlt]
   rw[e1,e3];rw[e2]at hv';exact SR.of hv'
  ·rw[if_neg ht]
   have e3:(entryA fn vs).tmps.getD t undef=undef:=by
    simp only[entryA,Array.getD_eq_getD_getElem?,Array.getElem?_append];rw[if_neg (fun e=>ht (Nat.lt_of_lt_of_eq e hsz))];cases h:(Array.replicate (fn.ntmps - vs.size) undef)[t - vs.size]? with
    |none=>rfl
    |some u=>
     rw[Array.getElem?_replicate]at h;split at h
     ·cases h;rfl
     ·cases h
   rw[e3];exact SR.of (VRundef C)
 box s β h:=by cases h
 inj s s' β h:=by cases h
 mark r h:=by simp at h
 nodup:=by simp
 live β o:=(own_none β o).elim
 osig β x v o:=(own_none β o).elim
 df:=.nil
 up:=hup
 fn:=rfl
 rnd:=rfl
theorem bodyV_ok{X:Ctx}{ev:Code->Fr->Out}(hev:CodeOK X.P ev){h:Heap}(r:WR C h w){args:List AV}{vs:Array Value}(hv:VRs C args vs){f:FuncId}{kind:CallKind}{up:Option (AV×Bool)}(hup:UpR C kind up cs)
  (hne:bodyV X ev f args h up≠.fail):∃fn,X.P.funcs[f]? =some fn/\fn.body.isSome=true /\
   Outs X.P (lone (Frame.enter X.P f vs kind) cs w) C (fun _=>none) [] (entryFr f args h up) (entryB f kind) (entryA fn vs) w cs [] (bodyV X ev f args h up):=by
 cases hf:X.P.funcs[f]? with
 |none=>exact absurd (by unfold bodyV;rw[hf]) hne
 | some fn =>
  cases hb:fn.body with
  |none=>exact absurd (by unfold bodyV;rw[hf];simp only[hb]) hne
  | some c =>
   by_cases hok:fn.ntmps<args.length\/codeOk fn.ntmps c=false
   ·exact absurd (by unfold bodyV;rw[hf];simp only[hb];rw[if_pos hok]) hne
   ·have hbv:bodyV X ev f args h up=ev c (entryFr f args h up):=by
     unfold bodyV;rw[hf];simp only[hb];rw[if_neg hok];rfl
    have hc:codeOk fn.ntmps c=true:=by
     cases h:codeOk fn.ntmps c with
     |true=>rfl
     |false=>exact absurd (.inr h) hok
    have hn:args.length <=fn.ntmps:=by
     rcases Nat.lt_or_ge fn.ntmps args.length with h|h
     ·exact absurd (.inl h) hok
     ·exact h
    have hsz:vs.size=args.length:=hv.1;have hsize:(entryA fn vs).tmps.size=fn.ntmps:=by simp[entryA];omega
    have he:Frame.enter X.P f vs kind=(entryB f kind).atR (entryA fn vs) [.code c]:=by
     simp[Frame.enter,Frame.atR,hf,hb,entryB,entryA]
    refine⟨fn,rfl,by rw[hb];rfl,?_⟩;rw[he,hbv];exact hev c (entryFr f args h up) C (fun _=>none) [] (entryB f kind) (entryA fn vs) w cs [] (St.entry r hv hup) (by rw[hsize];exact hc)
theorem body_end{m:Machine}{o:Out}{F1:Fr}(hb:b.roundOf=none)(ho:o= .norm F1\/o= .ret F1)(h:Outs P m C lam ms F b a w cs [] o) :
  ∃C' lam' ms' a' cs' w' todo,Steps P m (lone { b.atR a' todo with mode:=.returning } cs' w')/\Fin C lam ms F b a w cs F1 C' lam' ms' a' cs' w':=by
 rcases ho with rfl|rfl
 ·obtain⟨C',lam',ms',a',cs',w',h1,h2⟩:=h
  exact⟨C',lam',ms',a',cs',w',_,h1.trans (.one (stepR_end hb)),h2⟩
 ·obtain⟨C',lam',ms',a',cs',w',k1,h1,h2⟩:=h
  exact⟨C',lam',ms',a',cs',w',_,h1.trans (.one (stepR_ret hb)),h2⟩
def ModeR(C:Cfg)(st:Option AV)(M:FrameMode):Prop:=
 match st with
 |none=>M= .returning
 |some v=>∃u,M=Pan u/\VR C v u
theorem ModeR.mono{C D:Cfg}(hle:C.le D){st:Option AV}{M:FrameMode}(h:ModeR C st M):ModeR D st M:=by
 cases st with
 |none=>exact h
 |some v=>obtain⟨u,h1,h2⟩:=h;exact⟨u,h1,h2.mono hle⟩
theorem ModeR.run{st:Option AV}{M:FrameMode}(h:ModeR C st M):M≠.run:=by
 cases st with
 |none=>intro e;rw[show M= .returning from h]at e;cases e
 |some v=>obtain⟨u,h1,_⟩:=h;rw[h1];intro e;cases e
end
end Go.AM
namespace Go.AM
open Go
variable[Keep]
section
variable{P:Program}{w w':World}{C:Cfg}{lam:Nat->Option Nat}{ms:List Nat}{F:Fr}{b:Frame}{a:Act}{cs:List Frame}{k:List Item}
theorem dbodyV_ok{X:Ctx}{ev:Code->Fr->Out}(hev:CodeOK X.P ev){h:Heap}(r:WR C h w){args:List AV}{vs:Array Value}(hv:VRs C args vs){f:FuncId}{kind:CallKind}{up:Option (AV×Bool)}(hup:UpR C kind up cs)
  (hne:dbodyV X ev f args h up≠.fail):∃fn,X.P.funcs[f]? =some fn/\fn.body.isSome=true/\fn.results=#[] /\
   Outs X.P (lone (Frame.enter X.P f vs kind) cs w) C (fun _=>none) [] (entryFr f args h up) (entryB f kind) (entryA fn vs) w cs [] (dbodyV X ev f args h up):=by
 cases hf:X.P.funcs[f]? with
 |none=>exact absurd (by unfold dbodyV;rw[hf]) hne
 | some fn =>
  by_cases he:fn.results.isEmpty=true
  ·have e:dbodyV X ev f args h up=bodyV X ev f args h up:=by unfold dbodyV;rw[hf];simp only[he,if_true]
   rw[e]at hne ⊢;obtain⟨fn',h1,h2,h3⟩:=bodyV_ok (cs:=cs) hev r hv hup hne;rw[hf]at h1;cases h1;exact⟨fn,rfl,h2,by simpa using he,h3⟩
  ·exact absurd (by unfold dbodyV;rw[hf];simp only[he];rfl) hne
theorem deferred_ok{X:Ctx}{ev:Code->Fr->Out}(hev:CodeOK X.P ev)(hP:NoNum X.P){h:Heap}(r:WR C h w){args:List AV}{vs:Array Value}(hv:VRs C args vs){g:FuncId}{st:Option AV}{c:Frame}(hM:ModeR C st c.mode){F1:Fr}
  (ho:dbodyV X ev g args h (st.map fun v=>(v,false))= .norm F1\/dbodyV X ev g args h (st.map fun v=>(v,false))= .ret F1) (hdf:F1.df=[]) :
  (∃fn,X.P.funcs[g]? =some fn/\fn.body.isSome=true)/\∃C' w' M',Steps X.P (lone (Frame.enter X.P g vs .deferred) (c::cs) w) (lone { c with mode:=M' } cs w')/\ModeR C' (stillUp F1.up) M'/\WR C' F1.hp w'/\Ext C h (fun _=>False) w C' F1.hp (fun _=>False) w':=by
 have hup:UpR C .deferred (st.map fun v=>(v,false)) (c::cs):=by
  cases st with
  |none=>exact .inr ⟨rfl,c,cs,rfl,hM⟩
  |some v=>
   obtain⟨u,h1,h2⟩:=hM;exact⟨rfl,c,cs,u,rfl,h1,h2⟩
 have hne:dbodyV X ev g args h (st.map fun v=>(v,false))≠.fail:=by rcases ho with ho|ho<;>rw[ho]<;>intro e<;>cases e
 obtain⟨fn,hf,hb,hres,houts⟩:=dbodyV_ok (cs:=c::cs) hev r hv hup hne;refine⟨⟨fn,hf,hb⟩,?_⟩;obtain⟨C',lam',ms',a',cs',w',todo,h1,h2,h3,h4,h5⟩:=body_end rfl ho houts;obtain⟨w2,q1,q2,q3⟩:=unwind_marks (P:=X.P) a'.defers ms' a' w' todo .returning rfl (by intro e;cases e) hdf h3;have hcs:∃m,cs'={ c with mode:=m }::cs:=by
  rcases h5 with rfl|⟨_,c',rest,m,e,rfl⟩
  ·exact⟨c.mode,rfl⟩
  ·cases e;exact⟨m,rfl⟩
 obtain⟨m,rfl⟩:=hcs;have hgo:Frame.going X.P { (entryB g .deferred).atR { a' with defers:=[] } todo with mode:=.returning } w2 (.returned (.tuple #[])):=by
  refine⟨rfl,rfl,fn,hf,?_⟩;simp[results,hres,Frame.atR]
 have hst:=step_going_returned (P:=X.P) (c:={ c with mode:=m }) (cs:=cs) (w:=w2) (fr:={ (entryB g .deferred).atR { a' with defers:=[] } todo with mode:=.returning }) rfl hgo
 have hup':=q2.up;have hset:ModeR C' (stillUp F1.up) (settle m):=by
  cases hF:F1.up with
  | none =>
   rw[hF]at hup';rcases hup' with h|⟨_,c',rest,e,h⟩
   ·cases h
   ·cases e
    show settle m= .returning;rw[show m= .returning from h];rfl
  |some p=>
   obtain⟨v,rec⟩:=p;rw[hF]at hup';obtain⟨_,c',rest,u,e,h,hr⟩:=hup';cases e;have h:m= .panicking [{ v:=u,recovered:=rec,goexit:=false }]:=h;rw[h];cases rec with
   |true=>rfl
   |false=>exact⟨u,rfl,hr⟩
 refine⟨C',w2,settle m,h1.trans (q1.trans (.one hst)),hset,q2.wr,?_⟩;exact(h4.trans q3).close own_none
def Unw(P:Program)(lam:Nat->Option Nat)(ms:List Nat)(b:Frame)(a:Act)(todo:List Item)(M:FrameMode)(cs:List Frame)(C:Cfg)(F:Fr)(w:World)(h':Heap)(st':Option AV):Prop:=
 ∃C' w' M',Steps P (lone { b.atR a todo with mode:=M } cs w) (lone { b.atR { a with defers:=[] } todo with mode:=M' } cs w')/\St C' lam [] { F with hp:=h',df:=[] } b { a with defers:=[] } w' cs /\
  Ext C F.hp (Own lam ms) w C' h' (Own lam []) w'/\ModeR C' st' M'
theorem unwind_ok{X:Ctx}{ev:Code->Fr->Out}(hev:CodeOK X.P ev)(hP:NoNum X.P):∀(ds:List Deferred) (C:Cfg) (ms:List Nat) (F:Fr) (a:Act) (w:World) (todo:List Item) (M:FrameMode) (st st':Option AV) (h':Heap),a.defers=ds->St C lam ms F b a w cs->ModeR C st M->
  deferV X ev F.df F.hp st=some (h',st')->
  Unw X.P lam ms b a todo M cs C F w h' st':=by
 intro ds;induction ds with
 |nil=>
  intro C ms F a w todo M st st' h' hd s hM hdv;have hdf:=s.df;rw[hd]at hdf;generalize hF:F.df=df at hdf hdv;cases hdf;simp only[deferV,Option.some.injEq,Prod.mk.injEq]at hdv;obtain⟨rfl,rfl⟩:=hdv;obtain⟨t,d⟩:=a;simp only at hd;subst hd;obtain⟨f,rnd,e,lm,hp,df,up⟩:=F;simp only at hF;subst hF;exact⟨C,w,M,.refl _ _,s,.refl _ _ _ _,hM⟩
 | cons d ds ih =>
  intro C ms F a w todo M st st' h' hd s hM hdv;have hdf:=s.df;rw[hd]at hdf;generalize hF:F.df=df at hdf hdv;cases hdf with
  |mark r hr=>
   rename_i ms;have hr':DfR C F.df ds ms:=by rw[hF];exact hr
   obtain⟨h1,h2,h3⟩:=s.takeMark (P:=X.P) (d:={ target:=.collected r,args:=#[] }) hr';obtain⟨C',w',M',q1,q2,q3,q4⟩:=ih C ms F { a with defers:=ds } _ todo M st st' h' rfl h2 hM (by rw[hF];exact hdv)
   exact⟨C',w',M',.head (step_collected (fr:={ b.atR a todo with mode:=M }) (d:={ target:=.collected r,args:=#[] }) hM.run hd rfl h1) q1,q2,h3.trans q3,q4⟩
  | fn hr hv1 hv2 =>
   rename_i df0 g first capt args vs ws
   have hvs:=hv1.append hv2;have main:∀F1,(dbodyV X ev g ((first++args)++capt) F.hp (st.map fun v=>(v,false))= .norm F1\/dbodyV X ev g ((first++args)++capt) F.hp (st.map fun v=>(v,false))= .ret F1)->F1.df.isEmpty=true->
     deferV X ev df0 F1.hp (stillUp F1.up)=some (h',st')->Unw X.P lam ms b a todo M cs C F w h' st':=fun F1 ho he hrest=>by
    have hdf0:F1.df=[]:=by simpa using he
    obtain⟨⟨fn,hfn,hb⟩,C1,w1,M1,p1,p2,p3,p4⟩:=deferred_ok (cs:=cs) (c:={ b.atR { a with defers:=ds } todo with mode:=M }) hev hP s.wr hvs hM ho hdf0
    have s1:St C lam ms { F with df:=df0 } b { a with defers:=ds } w cs:={ s with df:=hr }
    have s2:=s1.later p3 p4;obtain⟨C',w',M',q1,q2,q3,q4⟩:=ih C1 ms { F with df:=df0,hp:=F1.hp } { a with defers:=ds } w1 todo M1 (stillUp F1.up) st' h' rfl s2 p2 hrest
    have hstep:=step_defer (P:=X.P) (fr:={ b.atR a todo with mode:=M }) (cs:=cs) (w:=w) (d:={ target:=.fn (.func g) ws,args:=vs }) (ds:=ds) (fv:=.func g) (cap:=ws) (f:=g) (args:=vs++ws) hM.run hd rfl
     (by simp only[invoke,run_callFunc hP hfn hb])
    exact⟨C',w',M',.head hstep (p1.trans q1),q2,(p4.wide _).trans q3,q4⟩
   simp only[deferV]at hdv;split at hdv
   ·rename_i F1 e
    split at hdv
    ·rename_i he;exact main F1 (.inl e) he hdv
    ·cases hdv
   ·rename_i F1 e
    split at hdv
    ·rename_i he;exact main F1 (.inr e) he hdv
    ·cases hdv
   ·cases hdv
def Left(P:Program)(f:FuncId)(C:Cfg)(h:Heap)(w:World)(m:Machine)(cs:List Frame):COut->Prop
 | .ret v h' _=>∃C' w' fr u,Steps P m (lone fr cs w')/\fr.leaving P w' (.returned u)/\fr.fn=f/\VR C' v u/\WR C' h' w'/\Ext C h (fun _=>False) w C' h' (fun _=>False) w'
 | .pan v h' _=>∃C' w' fr u,Steps P m (lone fr cs w')/\fr.leaving P w' (.panicked [{ v:=u,recovered:=false }])/\fr.fn=f/\VR C' v u/\WR C' h' w'/\Ext C h (fun _=>False) w C' h' (fun _=>False) w'
 | .fail=>True
theorem Left.answered{f:FuncId}{h:Heap}{m:Machine}{c:Frame}{r:COut}(h1:Left P f C h w m (c::cs) r):Answered P C h w m c cs r:=by
 cases r with
 |ret v h' up=>obtain⟨C',w',fr,u,q1,q2,_,q3⟩:=h1;exact⟨C',w',u,q1.trans (.one (step_leave_returned q2)),q3⟩
 |pan v h' up=>obtain⟨C',w',fr,u,q1,q2,_,q3⟩:=h1;exact⟨C',w',u,q1.trans (.one (step_leave_panicked q2)),q3⟩
 |fail=>trivial
def CallOK(P:Program)(cl:FuncId->List AV->Heap->COut):Prop:=
 ∀(f:FuncId) (args:List AV) (h:Heap) (C:Cfg) (w:World) (vs:Array Value),WR C h w->VRs C args vs->cl f args h≠.fail->
  (∃fn,P.funcs[f]? =some fn/\fn.body.isSome=true)/\∀cs,Left P f C h w (lone (Frame.enter P f vs .normal) cs w) cs (cl f args h)
theorem CallOK.cl{cl:FuncId->List AV->Heap->COut}(h:CallOK P cl):ClOK P cl:=fun f args hp C w vs r hv hne=>
 ⟨(h f args hp C w vs r hv hne).1,fun c cs=>((h f args hp C w vs r hv hne).2 (c::cs)).answered⟩
def IntrOK(X:Ctx):Prop:=∀(f:FuncId) (g:List AV->Heap->Option (AV×Heap)),X.intr f=some g->∀(args:List AV) (h:Heap) (v:AV) (h':Heap),g args h=some (v,h')->
 ∀(C:Cfg) (w:World) (vs:Array Value),WR C h w->VRs C args vs->(∃fn,X.P.funcs[f]? =some fn/\fn.body.isSome=true)/\∀cs,Left X.P f C h w (lone (Frame.enter X.P f vs .normal) cs w) cs (.ret v h' none)
theorem resV_ok{X:Ctx}{f:FuncId}(s:St C lam [] F b a w cs){todo:List Item}(hk:b.kind= .normal)(hfb:b.fn=f)(hd:a.defers=[]){C0:Cfg}{h0:Heap}{w0:World}{m:Machine}
  (hs:Steps X.P m (lone { b.atR a todo with mode:=.returning } cs w)) (hx:Ext C0 h0 (fun _=>False) w0 C F.hp (fun _=>False) w):Left X.P f C0 h0 w0 m cs (resV X f F):=by
 unfold resV;split
 ·trivial
 ·rename_i fn hf
  split
  ·trivial
  ·rename_i l hl
   obtain⟨u,h1,h2⟩:=results_ok s hl;have hlv:Frame.leaving X.P { b.atR a todo with mode:=.returning } w (.returned u):=⟨rfl,hd,hk,fn,by rw[<-hfb]at hf;exact hf,h1⟩
   unfold frzRes;split
   ·split
    ·rename_i v' h' hfr
     obtain⟨C',q1,q2,q3⟩:=freeze_ok s.wr h2 hfr;exact⟨C',w,_,u,hs,hlv,hfb,q1,q2,hx.trans q3⟩
    ·trivial
   ·exact⟨C,w,_,u,hs,hlv,hfb,h2,s.wr,hx⟩
theorem finV_ok{X:Ctx}{ev:Code->Fr->Out}(hev:CodeOK X.P ev)(hP:NoNum X.P){f:FuncId}(s:St C lam ms F b a w cs){todo:List Item}{M:FrameMode}{st:Option AV}(hM:ModeR C st M)(hk:b.kind= .normal)(hfb:b.fn=f)
  (hfn:∃fn,X.P.funcs[f]? =some fn) {C0:Cfg} {h0:Heap} {w0:World} {m:Machine} (hs:Steps X.P m (lone { b.atR a todo with mode:=M } cs w)) (hx:Ext C0 h0 (fun _=>False) w0 C F.hp (Own lam ms) w) :
  Left X.P f C0 h0 w0 m cs (finV X ev f F st):=by
 unfold finV;split
 ·trivial
 ·rename_i h' v hd
  obtain⟨C',w',M',q1,q2,q3,u,rfl,q4⟩:=unwind_ok hev hP a.defers C ms F a w todo M st _ h' rfl s hM hd;obtain⟨fn,hfn⟩:=hfn;exact⟨C',w',_,u,hs.trans q1,⟨rfl,rfl,fn,by rw[<-hfb]at hfn;exact hfn⟩,hfb,q4,q2.wr,(hx.trans q3).close fun _ o=>o⟩
 ·rename_i h' hd
  obtain⟨C',w',M',q1,q2,q3,q4⟩:=unwind_ok hev hP a.defers C ms F a w todo M st _ h' rfl s hM hd;have q4:M'= .returning:=q4;subst q4;exact resV_ok q2 hk hfb rfl (hs.trans q1) ((hx.trans q3).close fun _ o=>o)
theorem callF_ok {X : Ctx} {ev : Code -> Fr -> Out} (hev : CodeOK X.P ev) (hP : NoNum X.P) (hI : IntrOK X) : CallOK X.P (callF X ev) := by
  intro f args h C w vs r hv hne;unfold callF at hne ⊢;cases hi:atOnceF X f args h with
  | some p =>
    obtain⟨v,h'⟩:=p;unfold atOnceF at hi;split at hi
    · rename_i g hg
      exact hI f g hg args h v h' hi C w vs r hv
    · cases hi
  | none =>
    rw[hi]at hne;simp only at hne ⊢;have hb:bodyV X ev f args h none≠.fail:=fun e=>by rw[e]at hne;exact absurd rfl hne
    have hup:∀cs,UpR C .normal none cs:=fun cs=>.inl rfl;obtain⟨fn,hf,hbd,_⟩:=bodyV_ok (cs:=[]) hev r hv (hup []) hb;refine⟨⟨fn,hf,hbd⟩,fun cs=>?_⟩;obtain⟨fn',hf',_,houts⟩:=bodyV_ok (cs:=cs) hev r hv (hup cs) hb;have hcs:∀cs',CsR (entryB f .normal) cs cs'->cs'=cs:=fun cs' h=>by
      rcases h with h|⟨h,_⟩
      · exact h
      · cases h
    have close:∀{C':Cfg} {h':Heap} {O':Nat->Prop} {w':World},Ext C h (Own (fun _=>none) []) w C' h' O' w'->Ext C h (fun _=>False) w C' h' O' w':=fun e=>
      { le := e.le, os := e.os, tape := e.tape, output := e.output, size := e.size, same := fun β hb hl _ => e.same β hb hl (own_none β), live := fun β hb l => (e.live β hb l).imp id fun o => (own_none β o).elim,
        own:=fun β hb o=>(e.own β hb o).imp id fun o=>(own_none β o).elim,sig:=fun x v hb s=>(e.sig x v hb s).imp id fun s=>s.imp id fun o=>(own_none _ o).elim,next:=e.next }
    have ends:∀F1,(bodyV X ev f args h none= .norm F1\/bodyV X ev f args h none= .ret F1)->Left X.P f C h w (lone (Frame.enter X.P f vs .normal) cs w) cs (finV X ev f F1 none):=fun F1 ho=>by
      obtain⟨C',lam',ms',a',cs',w',todo,h1,h2,h3,h4,h5⟩:=body_end rfl ho houts;obtain rfl:=hcs cs' h5;exact finV_ok (M:=.returning) (st:=none) hev hP h3 rfl rfl rfl ⟨fn,hf⟩ h1 (close h4)
    split
    · rename_i F1 e;exact ends F1 (.inl e)
    · rename_i F1 e;exact ends F1 (.inr e)
    · rename_i v F1 e
      rw[e]at houts;obtain⟨C',lam',ms',a',cs',w',todo,u,h1,hr,h2,h3,h4,h5⟩:=houts;obtain rfl:=hcs cs' h5;exact finV_ok (M:=Pan u) (st:=some v) hev hP h3 ⟨u,rfl,hr⟩ rfl rfl ⟨fn,hf⟩ h1 (close h4)
    · trivial
end
end Go.AM
namespace Go.AM
open Go
variable[Keep]
theorem stepR_scope{P:Program}{b:Frame}{a:Act}{k:List Item}{cs:List Frame}{w:World}{c:Code} :
  step P (lone (b.atR a (.code (.scope c)::k)) cs w)= .next (lone (b.atR a (.code c::.inScope c::k)) cs w):=
 step_lone_go (by simp[stepG,stepG.exec,Frame.atR])
theorem stepR_inScope{P:Program}{b:Frame}{a:Act}{k:List Item}{cs:List Frame}{w:World}{c:Code} :
  step P (lone (b.atR a (.inScope c::k)) cs w)= .next (lone (b.atR a k) cs w):=
 step_lone_go (by simp[stepG,stepG.exec,Frame.atR])
section
variable{P:Program}{w w':World}{C:Cfg}{lam:Nat->Option Nat}{ms:List Nat}{F:Fr}{b:Frame}{a:Act}{cs:List Frame}{k:List Item}
theorem Ext.ahead{C C':Cfg}{h h':Heap}{w w':World}{O O':Nat->Prop}(e:Ext C h O w C' h' O' w')(hO:∀ β,¬O β):Ext C h (fun _=>False) w C' h' O' w' where
 le:=e.le
 os:=e.os
 tape:=e.tape
 output:=e.output
 size:=e.size
 same β hb hl _:=e.same β hb hl (hO β)
 live β hb l:=(e.live β hb l).imp id fun o=>(hO β o).elim
 own β hb o:=(e.own β hb o).imp id fun o=>(hO β o).elim
 sig x v hb s:=(e.sig x v hb s).imp id fun s=>s.imp id fun o=>(hO _ o).elim
 next:=e.next
theorem St.putHp(s:St C lam ms F b a w cs){id:Nat}{blk blk':Blk}{L:Loc}(hg:F.hp.get id=some blk)(hm:C.mu id=some L)(hs:w'.heap.size=w.heap.size)(hsame:∀ β,β≠L.b->w'.heap[β]? =w.heap[β]?)
  (hbr:BR C w' L blk') (hos:w'.os=w.os) (htp:w'.tape=w.tape) (hout:w'.output=w.output) :
  St C lam ms { F with hp:=F.hp.put id blk' } b a w' cs/\Ext C F.hp (Own lam ms) w C (F.hp.put id blk') (Own lam ms) w':=s.turn (WR.put s.wr hg hm hs hsame hbr hos htp hout)
theorem run_getLoop{l:Nat}{r:Loop}(h:w.heap[l]? =some (.loop r)):(Instr.getLoop l).run P w= .ok r w:=by
 simp only[Instr.getLoop,Sem.run_bind,run_getObj h (fun _ _ _ h=>by cases h),Result.andThen_ok,Sem.run_pure]
def putMany(l:List (Tmp×Value))(tmps:Array Value):Array Value:=l.foldl (fun tmps p=>tmps.setIfInBounds p.1 p.2) tmps
theorem setParams_ok:∀(ps:List Tmp) (args:List AV) (vs:List Value) (e e':Mp AV) (tmps:Array Value),setParams ps args e=some e'->VRs C args vs.toArray->(∀p∈ps,p<tmps.size)->
  (∀t,SR C (fun _=>none) .nil (tmpV e t) (tmps.getD t undef))->ps.length=args.length/\(putMany (ps.zip vs) tmps).size=tmps.size/\∀t,SR C (fun _=>none) .nil (tmpV e' t) ((putMany (ps.zip vs) tmps).getD t undef):=by
 intro ps;induction ps with
 |nil=>
  intro args vs e e' tmps h hv hp he;cases args with
  |nil=>simp[setParams]at h;subst h;exact⟨rfl,rfl,he⟩
  |cons x r=>simp[setParams]at h
 | cons p ps ih =>
  intro args vs e e' tmps h hv hp he;cases args with
  |nil=>simp[setParams]at h
  | cons x r =>
   simp only[setParams]at h;cases vs with
   |nil=>have:=hv.1;simp at this
   | cons v vs =>
    have hx:VR C x v:=by have:=hv.2 0 (by simp);simpa using this
    have hr:VRs C r vs.toArray:=by
     refine⟨by have:=hv.1;simp at this ⊢;omega,fun i hi=>?_⟩;have:=hv.2 (i+1) (by simp;omega);simpa using this
    have hpt:p<tmps.size:=hp p (by simp);obtain⟨h1,h2,h3⟩:=ih r vs (e.set p x) e' (tmps.setIfInBounds p v) h hr (fun q hq=>by simpa using hp q (by simp[hq])) (fun t=>by
     rw[getD_set _ _ _ _ hpt];unfold tmpV;rw[Mp.get_set];by_cases ht:p=t
     ·rw[if_pos ht,if_pos ht];exact SR.of hx
     ·rw[if_neg ht,if_neg ht];exact he t)
    exact⟨by simp[h1],by rw[show putMany ((p::ps).zip (v::vs)) tmps=putMany (ps.zip vs) (tmps.setIfInBounds p v) from rfl,h2];simp,h3⟩
theorem foldl_zip(ps:Array Tmp)(vs:Array Value)(tmps:Array Value):(ps.zip vs).foldl (fun tmps (t,a)=>tmps.setIfInBounds t a) tmps=putMany (ps.toList.zip vs.toList) tmps:=by
 rw[<-Array.foldl_toList,Array.toList_zip];rfl
theorem endV_ok(s:St C lam ms F b a w cs){id:Nat}{L:Loc}{st:LoopState}{pend:Option Code}{c:Frame}{cs1:List Frame}(hm:C.mu id=some L)(hst:st=(if pend.isNone then .ready else .done)){C0:Cfg}{h0:Heap}{w0:World}{m:Machine}
  (hs:∀w',(Instr.endRound L.b pend).run P w= .ok (.bool pend.isNone) w'->Steps P m (lone (c.finish (.bool pend.isNone)) cs1 w')) (hx:Ext C0 h0 (fun _=>False) w0 C F.hp (Own lam ms) w) :
  Answered P C0 h0 w0 m c cs1 (endV id F st pend pend.isNone):=by
 unfold endV;split
 ·rename_i f e ps assign body st0 pend0 hg
  obtain⟨L',e1,l,h1,h2,h3,h4,h5,h6,h7,h8⟩:=s.wr.blk id _ hg;rw[hm]at e1;cases e1;have hrun:(Instr.endRound L.b pend).run P w= .ok (.bool pend.isNone) { w with heap:=w.heap.setIfInBounds L.b (.loop { l with state:=st,pending:=pend }) }:=by
   simp only[Instr.endRound,Sem.run_bind,run_getLoop h1,Result.andThen_ok,run_setObj h1 (fun _ _ _ h=>by cases h),Sem.run_pure,hst]
  obtain⟨s',e'⟩:=s.putHp (w':={ w with heap:=w.heap.setIfInBounds L.b (.loop { l with state:=st,pending:=pend }) }) (blk':=.loop f e ps assign body st pend) hg hm (by simp) (fun β hb=>heap_set_other hb)
   ⟨_,heap_set_same h1,h2,h3,h4,h5,rfl,rfl,h8⟩ rfl rfl rfl
  exact⟨C,_,.bool pend.isNone,hs _ hrun,.bool _,s'.wr,(hx.trans e').close fun _ o=>o⟩
 ·trivial
theorem roundV_ok {X : Ctx} {ev : Code -> Fr -> Out} (hev : CodeOK X.P ev) : RdOK X.P (roundV X ev) := by
  intro id args h C w vs L r hv hmu hne;unfold roundV at hne ⊢;split at hne
  · rename_i f e ps assign body pend hg
    split at hne
    · exact absurd rfl hne
    · rename_i e' hset
      obtain⟨L',e1,l,h1,h2,h3,h4,h5,h6,h7,h8,h9,h10,h11⟩:=r.blk id _ hg;rw[hmu]at e1;cases e1;obtain⟨k1,k2,k3⟩:=setParams_ok ps args vs.toList e e' l.tmps hset (by simpa using hv) h10 h11;have hsz:vs.size=l.params.size:=by rw[hv.1,<-k1,<-h3];simp
      have hy:(Instr.yield L.b vs).run X.P w= .ok (.round L.b f (putMany (ps.zip vs.toList) l.tmps) assign body) w:=by
        simp only[Instr.yield,Sem.run_bind,run_getLoop h1,Result.andThen_ok,ne_eq,hsz,not_true_eq_false,if_false,Sem.run_pure,foldl_zip,h2,h3,h4,h5]
      refine⟨f,_,assign,body,hy,fun c cs=>?_⟩
      let F0:Fr:={ f,rnd:=true,e:=e',lm:=.nil,hp:=h,df:=[],up:=none }
      let b:Frame:={ (default:Frame)with fn:=f,kind:=.normal,roundOf:=some L.b }
      let a:Act:={ tmps:=putMany (ps.zip vs.toList) l.tmps,defers:=[] }
      have hb0:Frame.round L.b f (putMany (ps.zip vs.toList) l.tmps) assign body .normal=b.atR a [.code assign,.beginRound,.code body]:=by
        simp[Frame.round,Frame.atR,b,a]
      have s0:St C (fun _=>none) [] F0 b a w (c::cs):=
        { wr := r, env := k3, box := fun s β h => (by cases h), inj := fun s s' β h => (by cases h), mark := fun r h => (by simp at h), nodup := (by simp), live := fun β o => (own_none β o).elim, osig := fun β x v o => (own_none β o).elim,
          df:=.nil,up:=.inl rfl,fn:=rfl,rnd:=rfl }
      have hcs:∀cs',CsR b (c::cs) cs'->cs'=c::cs:=fun cs' h=>by
        rcases h with h|⟨h,_⟩
        · exact h
        · cases h
      have close:∀{C':Cfg} {h':Heap} {O':Nat->Prop} {w':World},Ext C h (Own (fun _=>none) []) w C' h' O' w'->Ext C h (fun _=>False) w C' h' O' w':=fun e=>e.ahead own_none;have o1:=hev assign F0 C (fun _=>none) [] b a w (c::cs) [.beginRound,.code body] s0 (by rw[show a.tmps.size=l.tmps.size from k2];exact h8);rw[hb0];show Answered _ _ _ _ _ _ _ (match ev assign F0 with
        | .norm F1 => (match F1.hp.get id with
          |some (.loop f1 e1 params1 assign1 body1 .ready p)=>roundEnd X.P id (ev body { F1 with hp:=F1.hp.put id (.loop f1 e1 params1 assign1 body1 .busy p) })
          |_=>.fail)
        |_=>.fail)
      split
      · rename_i F1 e1
        rw[e1]at o1;obtain⟨C1,lam1,ms1,a1,cs1,w1,q1,q2,q3,q4,q5⟩:=o1;obtain rfl:=hcs cs1 q5;split
        · rename_i f1 e1 ps1 as1 bo1 p1 hg1
          have hmu1:=q4.le.mu _ _ hmu;obtain⟨L',e1',l1,g1,g2,g3,g4,g5,g6,g7,g8⟩:=q3.wr.blk id _ hg1;rw[hmu1]at e1';cases e1';have hbegin:(Instr.beginRound L.b).run X.P w1= .ok () { w1 with heap:=w1.heap.setIfInBounds L.b (.loop { l1 with state:=.busy }) }:=by
            simp only[Instr.beginRound,Sem.run_bind,run_getLoop g1,Result.andThen_ok,run_setObj g1 (fun _ _ _ h=>by cases h),Sem.run_pure,g6]
          obtain⟨s1,x1⟩:=q3.putHp (w':={ w1 with heap:=w1.heap.setIfInBounds L.b (.loop { l1 with state:=.busy }) }) (blk':=.loop f1 e1 ps1 as1 bo1 .busy p1) hg1 hmu1 (by simp) (fun β hb=>heap_set_other hb)
            ⟨_,heap_set_same g1,g2,g3,g4,g5,rfl,g7,g8⟩ rfl rfl rfl
          have hsteps:Steps X.P (lone (b.atR a [.code assign,.beginRound,.code body]) (c::cs) w) (lone (b.atR a1 [.code body]) (c::cs) _):=q1.trans (.one (stepR_beginRound rfl hbegin));have o2:=hev body _ C1 lam1 ms1 b a1 _ (c::cs) [] s1 (by rw[q2,show a.tmps.size=l.tmps.size from k2];exact h9);have x2:=close (q4.trans x1);generalize ev body _=o at o2;cases o with
          | norm F2 =>
            obtain⟨C2,lam2,ms2,a2,cs2,w2,p1,p2,p3,p4,p5⟩:=o2;obtain rfl:=hcs cs2 p5;have hmu2:=p4.le.mu _ _ hmu1;exact endV_ok (pend:=none) (st:=.ready) p3 hmu2 rfl (fun w' hw'=>hsteps.trans (p1.trans (.one (stepR_round_end rfl rfl hw')))) (x2.trans p4)
          | exit i F2 =>
            obtain⟨C2,lam2,ms2,a2,cs2,w2,k1',p1,hk,p2,p3,p4,p5⟩:=o2;obtain rfl:=hcs cs2 p5;have hmu2:=p4.le.mu _ _ hmu1;exact endV_ok (pend:=some (.exit i)) (st:=.done) p3 hmu2 rfl (fun w' hw'=>hsteps.trans (p1.trans (.one (stepR_round_exit rfl rfl hk hw')))) (x2.trans p4)
          | ret F2 =>
            obtain⟨C2,lam2,ms2,a2,cs2,w2,k1',p1,p2,p3,p4,p5⟩:=o2;obtain rfl:=hcs cs2 p5;have hmu2:=p4.le.mu _ _ hmu1;exact endV_ok (pend:=some .ret) (st:=.done) p3 hmu2 rfl (fun w' hw'=>hsteps.trans (p1.trans (.one (stepR_round_ret rfl rfl hw')))) (x2.trans p4)
          | pan v F2 =>
            obtain⟨C2,lam2,ms2,a2,cs2,w2,todo,u,p1,hr,p2,p3,p4,p5⟩:=o2;obtain rfl:=hcs cs2 p5;show Answered _ _ _ _ _ _ _ (if F2.df.isEmpty&&(X.P.funcs[F2.f]?).isSome then .pan v F2.hp none else .fail)
            split
            · rename_i hdf
              simp only[Bool.and_eq_true]at hdf;obtain⟨w3,t1,t2,t3⟩:=unwind_marks (P:=X.P) a2.defers ms2 a2 w2 todo (Pan u) rfl (by intro e;cases e) (by simpa using hdf.1) p3;obtain⟨fn,hfn⟩:=Option.isSome_iff_exists.1 hdf.2;have hlv:Frame.leaving X.P { b.atR { a2 with defers:=[] } todo with mode:=Pan u } w3 (.panicked [{ v:=u,recovered:=false }]):=⟨rfl,rfl,fn,by rw[<-p3.fn]at hfn;exact hfn⟩
              exact⟨C2,w3,u,hsteps.trans (p1.trans (t1.trans (.one (step_leave_panicked hlv)))),hr,t2.wr,(x2.trans (p4.trans t3)).close fun _ o=>o⟩
            · trivial
          |fail=>trivial
        · trivial
      · trivial
  · exact absurd rfl hne
end
end Go.AM
namespace Go.AM
open Go
variable[Keep]
section
variable{P:Program}{w w':World}{C:Cfg}{lam:Nat->Option Nat}{ms:List Nat}{F:Fr}{b:Frame}{a:Act}{cs:List Frame}{k:List Item}
theorem St.pushMark(s:St C lam ms F b a w cs) :
    St C lam (w.heap.size::ms) F b { a with defers:={ target:=.collected w.heap.size,args:=#[] }::a.defers } { w with heap:=w.heap.push (.deferred (some [])) } cs /\
    Ext C F.hp (Own lam ms) w C F.hp (Own lam (w.heap.size::ms)) { w with heap:=w.heap.push (.deferred (some [])) }:=by
  obtain⟨s',e'⟩:=s.push (w':={ w with heap:=w.heap.push (.deferred (some [])) }) (o:=.deferred (some [])) (C':=C) rfl rfl rfl rfl (.refl C) (fun _ _ h=>h) (fun _ _ h=>.inl h)
  have hown:∀ β,Own lam (w.heap.size::ms) β->Own lam ms β \/ β=w.heap.size:=by
    rintro β (h|h)
    · exact .inl (.inl h)
    · rcases List.mem_cons.1 h with rfl | h
      · exact .inr rfl
      · exact .inl (.inr h)
  constructor
  · exact { wr := s'.wr, env := s'.env, box := s'.box, inj := s'.inj, mark := fun r hr => by
              rcases List.mem_cons.1 hr with rfl|hr
              · simp
              · exact s'.mark r hr
            nodup:=List.nodup_cons.2 ⟨fun h=>by have:=s.own_lt (.inr h);omega,s.nodup⟩,
            live:=fun β ho l=>by
              rcases hown β ho with ho|rfl
              · exact s'.live β ho l
              · have:=s.wr.live_lt l;omega
            osig:=fun β x v ho h e=>by
              rcases hown β ho with ho|rfl
              · exact s'.osig β x v ho h e
              · have:=s.wr.sig_lt h;omega
            df:=.mark _ s'.df,up:=s'.up,fn:=s'.fn,rnd:=s'.rnd }
  · exact { e' with own:=fun β hb o=>(hown β o).elim .inr (fun e=>absurd hb (by omega)) }
theorem noBox_SR{lm:Mp (Nat×List AV)}{v:AV}{u:Value}(h:SR C lam lm v u):SR C (fun _=>none) .nil (noBox v) u:=by
 cases v<;>first|exact h|trivial
theorem env_noBox(s:St C lam ms F b a w cs)(t:Tmp):SR C (fun _=>none) .nil (tmpV (F.e.map noBox) t) (a.tmps.getD t undef):=by
 have h:=s.env t;unfold tmpV;rw[Mp.get_map];have e:F.tmp t=match F.e.get t with|some v=>v|none=>undefA:=rfl
 rw[e]at h;cases hg:F.e.get t with
 |none=>rw[hg]at h;exact h
 |some v=>rw[hg]at h;exact noBox_SR h
theorem rangeFunc_ok{X:Ctx}{cl:FuncId->List AV->Heap->COut}(hP:NoNum X.P)(hc:ClOK X.P cl)(s:St C lam ms F b a w cs){g:Operand}{ps:Array Tmp}{assign body:Code}{fid:FuncId}{first capt:List AV}(hr:F.rnd=false)
  (hg:F.opv g=some (.func (.func fid) first capt)) (hok:codeOk a.tmps.size (.rangeFunc g ps assign body)=true) :
  Outs X.P (lone (b.atR a (.code (.rangeFunc g ps assign body)::k)) cs w) C lam ms F b a w cs k
   (match cl fid ((first++[.yield F.hp.next])++capt) (F.hp.new (.loop F.f (F.e.map noBox) ps.toList assign body .ready none))with
   | .ret _ h _ => (match h.get F.hp.next with
    |some (.loop f e ps a b st pend)=>if st= .busy then .fail else
     (let F':={ F with hp:=h.put F.hp.next (.loop f e ps a b .exhausted pend) }
     match pend with
     |none=>.norm F'
     |some .ret=>.ret F'
     |some (.exit i)=>.exit i F'
     |_=>.fail)
    |_=>.fail)
   |_=>.fail):=by
 simp only[codeOk,Bool.and_eq_true]at hok;obtain⟨hps,has,hbo⟩:=hok;have hro:b.roundOf=none:=by
  have:=s.rnd;cases h:b.roundOf with
  |none=>rfl
  |some l=>rw[h,hr]at this;cases this
 obtain⟨vs,ws,eg,rv,rw'⟩:=(s.opv hg).func_inv;obtain⟨s1,x1⟩:=s.pushMark
 let w1:World:={ w with heap:=w.heap.push (.deferred (some [])) }
 let rec1:Loop:={ state:=.ready,pending:=none,fn:=b.fn,tmps:=a.tmps,params:=ps,assign,body,defers:=w.heap.size }
 let w2:World:={ w1 with heap:=w1.heap.push (.loop rec1) }
 let L:Loc:=⟨w1.heap.size,0,0,0⟩
 let a1:Act:={ a with defers:={ target:=.collected w.heap.size,args:=#[] }::a.defers }
 have hle:C.le (muPush C F.hp.next L):=muPush_le s1.wr L;obtain⟨s2,x2⟩:=s1.fresh (w':=w2) (o:=.loop rec1) (blk:=.loop F.f (F.e.map noBox) ps.toList assign body .ready none) (L:=L) rfl rfl rfl rfl rfl
  ⟨rec1,by simp[w2,L],s.fn,rfl,rfl,rfl,rfl,rfl,has,hbo,fun p hp=>by have:=List.all_eq_true.1 hps p hp;simpa using this,fun t=>(env_noBox s t).mono hle⟩
 have hent:(Instr.enterLoop b.fn a.tmps ps assign body b.roundOf).run X.P w= .ok (w1.heap.size,[{ target:=.collected w.heap.size,args:=#[] }]) w2:=by
  rw[hro];simp[Instr.enterLoop,w2,w1,rec1]
 have hres:(resolve a.eval (rangeCall g w1.heap.size) 0).run X.P w2= .ok { target:=.fn (.func fid) ws,args:=vs++#[.func (.yield w1.heap.size) #[] #[]] } w2:=by
  have e:(#[Operand.const (.func (.yield w1.heap.size) #[] #[])]:Array Operand).map a.eval=#[.func (.yield w1.heap.size) #[] #[]]:=by simp[Act.eval]
  simp only[resolve,rangeCall,e,eg,Deferred.ofValue,Sem.run_pure]
 have hvs:VRs (muPush C F.hp.next L) ((first++[.yield F.hp.next])++capt) ((vs++#[.func (.yield w1.heap.size) #[] #[]])++ws):=by
  refine VRs.append (VRs.append (rv.mono hle) ⟨rfl,fun i hi=>?_⟩) (rw'.mono hle);have:i=0:=by simpa using hi
  subst this;exact VR.yield (L:=L) (by simp[muPush])
 cases hcl:cl fid ((first++[.yield F.hp.next])++capt) (F.hp.new (.loop F.f (F.e.map noBox) ps.toList assign body .ready none))with
 |fail=>trivial
 |pan v h' up=>trivial
 | ret v h' up =>
  obtain⟨⟨fn,hfn,hb⟩,hans⟩:=hc fid _ _ _ w2 _ s2.wr hvs (by rw[hcl];intro e;cases e);have hinv:(invoke (.fn (.func fid) ws) (vs++#[.func (.yield w1.heap.size) #[] #[]])).run X.P w2= .ok (.enter fid ((vs++#[.func (.yield w1.heap.size) #[] #[]])++ws)) w2:=by
   simp only[invoke,run_callFunc hP hfn hb]
  have hstep:=stepR_rangeFunc (P:=X.P) (b:=b) (a:=a) (k:=k) (cs:=cs) hent hres hinv;have h1:=hans (b.atR a1 (.inRangeFunc w1.heap.size::k)) cs;rw[hcl]at h1;obtain⟨C3,w3,u,q1,q2,q3,q4⟩:=h1;rw[finish_atR_inRangeFunc]at q1;have s3:=s2.later q3 q4;have x3:=(x1.trans x2).trans (q4.wide (Own lam (w.heap.size::ms)));show Outs _ _ _ _ _ _ _ _ _ _ _ (match h'.get F.hp.next with
    |some (.loop f e ps a b st pend)=>if st= .busy then .fail else
     (let F':={ F with hp:=h'.put F.hp.next (.loop f e ps a b .exhausted pend) }
     match pend with
     |none=>.norm F'
     |some .ret=>.ret F'
     |some (.exit i)=>.exit i F'
     |_=>.fail)
    |_=>.fail)
  split
  ·rename_i f e ps' as' bo' st pend hget
   split
   ·trivial
   ·rename_i hbusy
    have hmu:C3.mu F.hp.next=some L:=q4.le.mu _ _ (by simp[muPush]);obtain⟨L',e1,l1,g1,g2,g3,g4,g5,g6,g7,g8⟩:=s3.wr.blk F.hp.next _ hget;rw[hmu]at e1;cases e1;have hend:(Instr.endLoop w1.heap.size).run X.P w3= .ok pend { w3 with heap:=w3.heap.setIfInBounds w1.heap.size (.loop { l1 with state:=.exhausted }) }:=by
     have hst:(l1.state==LoopState.busy)=false:=by rw[g6];cases st<;>first|rfl|exact absurd rfl hbusy
     have g1:w3.heap[w1.heap.size]? =some (.loop l1):=g1;simp only[Instr.endLoop,Sem.run_bind,run_getLoop g1,Result.andThen_ok,hst,Bool.false_eq_true,if_false,run_setObj g1 (fun _ _ _ h=>by cases h),Sem.run_pure,g7]
    obtain⟨s4,x4⟩:=s3.putHp (w':={ w3 with heap:=w3.heap.setIfInBounds w1.heap.size (.loop { l1 with state:=.exhausted }) }) (blk':=.loop f e ps' as' bo' .exhausted pend) hget hmu (by simp) (fun β hb=>heap_set_other hb)
     ⟨_,heap_set_same g1,g2,g3,g4,g5,rfl,g7,g8⟩ rfl rfl rfl
    have hsteps:Steps X.P (lone (b.atR a (.code (.rangeFunc g ps assign body)::k)) cs w) (lone (b.atR a1 ((pend.map Item.code).toList++k)) cs _):=.head hstep (q1.trans (.one (stepR_endRangeFunc hend)));have hfin:=(⟨rfl,s4,x3.trans x4,.refl b cs⟩:Fin C lam ms F b a w cs _ C3 lam (w.heap.size::ms) a1 cs _);cases pend with
    |none=>exact⟨_,_,_,_,_,_,hsteps,hfin⟩
    |some c=>
     cases c<;>try trivial
     case exit i=>exact⟨_,_,_,_,_,_,k,hsteps,rfl,hfin⟩
     case ret=>exact⟨_,_,_,_,_,_,k,hsteps,hfin⟩
  ·trivial
def DrawOK(X:Ctx):Prop:=
 ∀ (cl : FuncId -> List AV -> Heap -> COut) (rd : Nat -> List AV -> Heap -> COut), ClOK X.P cl -> RdOK X.P rd ->
  ∀(id:Nat) (ops:Array Oper) (F:Fr) (C:Cfg) (lam:Nat->Option Nat) (ms:List Nat) (b:Frame) (a:Act) (w:World) (cs:List Frame) (k:List Item),St C lam ms F b a w cs->dstsLt a.tmps.size ops.toList=true->
   Outs X.P (lone (b.atR a (.code (.region id ops true)::k)) cs w) C lam ms F b a w cs k (runDrawP X cl rd ops F)
def LoopOK(P:Program)(ev:Code->Fr->Out):Prop:=
 ∀(body:Code) (F:Fr) (C:Cfg) (lam:Nat->Option Nat) (ms:List Nat) (b:Frame) (a:Act) (w:World) (cs:List Frame) (k:List Item),St C lam ms F b a w cs->codeOk a.tmps.size body=true->
  Outs P (lone (b.atR a (.code body::.inLoop body::k)) cs w) C lam ms F b a w cs k (ev (.loop body) F)
theorem loop_step{X:Ctx}{ev:Code->Fr->Out}(hev:CodeOK X.P ev)(hl:LoopOK X.P ev):LoopOK X.P (evStep X ev):=by
 intro body F C lam ms b a w cs k s hok;have h1:=hev body F C lam ms b a w cs (.inLoop body::k) s hok;simp only[evStep];split
 ·rename_i F' e
  rw[e]at h1;obtain⟨C',lam',ms',a',cs',w',q1,q2⟩:=h1;exact Outs.head (q1.trans (.one stepR_inLoop)) q2 (hl body F' C' lam' ms' b a' w' cs' k q2.2.1 (by rw[q2.1];exact hok))
 ·rename_i o hne
  exact h1.behind (fun _=>rfl) hne
theorem code_step{X:Ctx}(hP:NoNum X.P)(hI:IntrOK X)(hD:DrawOK X){ev:Code->Fr->Out}(hev:CodeOK X.P ev)(hl:LoopOK X.P ev):CodeOK X.P (evStep X ev):=by
 intro c F C lam ms b a w cs k s hok;have hcl:=(callF_ok hev hP hI).cl;have hrd:=roundV_ok hev;have one:∀{m:Machine},step X.P (lone (b.atR a (.code c::k)) cs w)= .next m->∀{o:Out},Outs X.P m C lam ms F b a w cs k o->Outs X.P (lone (b.atR a (.code c::k)) cs w) C lam ms F b a w cs k o:=fun h _ ho=>Outs.head (.one h) (.refl s) ho;cases c with
 |skip=>exact⟨C,lam,ms,a,cs,w,.one stepR_skip,.refl s⟩
 |label l=>exact⟨C,lam,ms,a,cs,w,.one stepR_label,.refl s⟩
 |exit id=>exact⟨C,lam,ms,a,cs,w,k,.refl _ _,rfl,.refl s⟩
 |ret=>exact⟨C,lam,ms,a,cs,w,k,.refl _ _,.refl s⟩
 | seq x y =>
  simp only[codeOk,Bool.and_eq_true]at hok;have h1:=hev x F C lam ms b a w cs (.code y::k) s hok.1;simp only[evStep];refine one stepR_seq ?_;split
  ·rename_i F' e
   rw[e]at h1;obtain⟨C',lam',ms',a',cs',w',q1,q2⟩:=h1;exact Outs.head q1 q2 (hev y F' C' lam' ms' b a' w' cs' k q2.2.1 (by rw[q2.1];exact hok.2))
  ·rename_i o hne
   exact h1.behind (fun _=>rfl) hne
 | cond c x y =>
  simp only[codeOk,Bool.and_eq_true]at hok;simp only[evStep];split
  ·rename_i e
   have hv:a.eval c= .bool true:=((s.opd e).out rfl).bool_inv;exact one (stepR_cond hv) (hev x F C lam ms b a w cs k s hok.1)
  ·rename_i e
   have hv:a.eval c= .bool false:=((s.opd e).out rfl).bool_inv;exact one (stepR_cond hv) (hev y F C lam ms b a w cs k s hok.2)
  ·trivial
 | block id x =>
  simp only[codeOk]at hok;have h1:=hev x F C lam ms b a w cs (.inBlock id::k) s hok;simp only[evStep];refine one stepR_block ?_;generalize ev x F=o at h1;cases o with
  |norm F'=>
   obtain⟨C',lam',ms',a',cs',w',q1,q2⟩:=h1;exact⟨C',lam',ms',a',cs',w',q1.trans (.one stepR_inBlock),q2⟩
  | exit i F' =>
   obtain⟨C',lam',ms',a',cs',w',k1,q1,q3,q2⟩:=h1;simp only;split
   ·rename_i e
    subst e;have:exitTo i k1=some k:=by rw[q3];simp[exitTo]
    exact⟨C',lam',ms',a',cs',w',q1.trans (.one (stepR_exit this)),q2⟩
   ·rename_i e
    refine⟨C',lam',ms',a',cs',w',k1,q1,?_,q2⟩;rw[q3];simp only[exitTo];rw[if_neg (by simpa using fun e'=>e e'.symm)]
  |ret F'=>exact h1
  |pan v F'=>exact h1
  |fail=>trivial
 |loop x=>
  simp only[codeOk]at hok;exact one stepR_loop (loop_step hev hl x F C lam ms b a w cs k s hok)
 | scope x =>
  simp only[codeOk]at hok;have h1:=hev x F C lam ms b a w cs (.inScope x::k) s hok;simp only[evStep];refine one stepR_scope ?_;generalize ev x F=o at h1;cases o with
  |norm F'=>
   obtain⟨C',lam',ms',a',cs',w',q1,q2⟩:=h1;exact⟨C',lam',ms',a',cs',w',q1.trans (.one stepR_inScope),q2⟩
  |_=>exact h1.behind (fun _=>rfl) (fun F' e=>by cases e)
 | region id ops draw =>
  simp only[codeOk]at hok;simp only[evStep];cases draw with
  |true=>exact hD _ _ hcl hrd id ops F C lam ms b a w cs k s hok
  |false=>
   refine one stepR_region ?_;have:=runOps_ok (X:=X) (k:=k) hP hcl hrd (ops:=ops) ops.toList 0 C lam ms F a w cs s (fun j o h=>by simpa using h) hok;rw[show List.range' 0 ops.toList.length=List.range ops.size from by rw[List.range_eq_range'];simp]at this;exact this
 | rangeFunc g ps assign body =>
  simp only[evStep];split
  ·trivial
  ·rename_i hr
   split
   ·rename_i fid first capt hg
    exact rangeFunc_ok hP hcl s (by simpa using hr) hg hok
   ·trivial
 |_=>trivial
theorem ev_ok{X:Ctx}(hP:NoNum X.P)(hI:IntrOK X)(hD:DrawOK X):∀n,CodeOK X.P (ev X n)/\LoopOK X.P (ev X n):=by
 intro n;induction n with
 |zero=>exact⟨fun _ _ _ _ _ _ _ _ _ _ _ _=>trivial,fun _ _ _ _ _ _ _ _ _ _ _ _=>trivial⟩
 |succ n ih=>exact⟨code_step hP hI hD ih.1 ih.2,loop_step ih.1 ih.2⟩
end
end Go.AM
namespace Go.AM
open Go
variable[Keep]
section
variable{F G:Fr}{P:Program}
theorem opv_congr{x:Operand}(h:G.opd x=F.opd x):G.opv x=F.opv x:=by unfold Fr.opv;rw[h]
theorem opvs_congr:∀{l:List Operand},(∀x∈l,G.opd x=F.opd x)->G.opvs l=F.opvs l:=by
 intro l;induction l with
 |nil=>intro _;rfl
 |cons x l ih=>
  intro h;simp only[Fr.opvs];rw[opv_congr (h x (by simp)),ih (fun y hy=>h y (by simp[hy]))]
theorem parts_congr:∀{l:List (Nat×Operand)},(∀p∈l,G.opd p.2=F.opd p.2)->G.parts l=F.parts l:=by
 intro l;induction l with
 |nil=>intro _;rfl
 |cons p l ih=>
  intro h;obtain⟨i,x⟩:=p;simp only[Fr.parts];rw[opv_congr (h (i,x) (by simp)),ih (fun y hy=>h y (by simp[hy]))]
theorem mem_congr(h1:G.lm=F.lm)(h2:G.hp=F.hp)(p:AV):G.mem p=F.mem p:=by
 unfold Fr.mem;rw[h1,h2]
theorem rd_congr{X:Ctx}{d:Option Tmp}{op:Op}(ho:∀x∈op.operands.toList,G.opd x=F.opd x)(h1:G.lm=F.lm)(h2:G.hp=F.hp):rdV X G d op=rdV X F d op:=by
 cases op<;>simp only[rdV]
 case move x=>exact ho x (by simp[Op.operands])
 case assign x=>exact ho x (by simp[Op.operands])
 case pick c x y=>simp only[Fr.pickV];rw[opv_congr (ho c (by simp[Op.operands])),opv_congr (ho x (by simp[Op.operands])),opv_congr (ho y (by simp[Op.operands]))]
 case alloc t=>simp only[Fr.allocV];rw[h1]
 case build t ps=>simp only[Fr.buildV];rw[parts_congr (fun p hp=>ho p.2 (by simp only[Op.operands];exact List.mem_map_of_mem hp))]
 case buildSlice t n ps=>simp only[Fr.buildSliceV];rw[parts_congr (fun p hp=>ho p.2 (by simp only[Op.operands];exact List.mem_map_of_mem hp))]
 case load t x=>simp only[Fr.loadV];rw[ho x (by simp[Op.operands])];split<;>first|rfl|rw[mem_congr h1 h2]
 case nilCheck x=>simp only[Fr.nilCheckV];rw[ho x (by simp[Op.operands])]
 case binOp bo t x y p=>simp only[Fr.binV2];rw[opv_congr (ho x (by simp[Op.operands])),opv_congr (ho y (by simp[Op.operands]))]
 case unOp uo t x=>simp only[Fr.unV1];rw[opv_congr (ho x (by simp[Op.operands]))]
 case convert t u x=>simp only[Fr.convV1];rw[opv_congr (ho x (by simp[Op.operands])),h2]
 case makeInterface t x=>simp only[Fr.ifaceV];rw[opv_congr (ho x (by simp[Op.operands]))]
 case makeFunc fn p q=>simp only[Fr.funcV];rw[opvs_congr (fun x hx=>ho x (by simp only[Op.operands,Array.toList_append];exact List.mem_append_left _ hx)),opvs_congr (fun x hx=>ho x (by simp only[Op.operands,Array.toList_append];exact List.mem_append_right _ hx))]
 case slice t x lo hi mx=>
  simp only[Fr.sliceV1];rw[opv_congr (ho x (by simp[Op.operands])),h2];have e1:lo.map G.opv=lo.map F.opv:=by cases lo with|none=>rfl|some y=>simp[opv_congr (ho y (by simp[Op.operands]))]
  have e2:hi.map G.opv=hi.map F.opv:=by cases hi with|none=>rfl|some y=>simp[opv_congr (ho y (by simp[Op.operands]))]
  have e3:mx.map G.opv=mx.map F.opv:=by cases mx with|none=>rfl|some y=>simp[opv_congr (ho y (by simp[Op.operands]))]
  rw[e1,e2,e3]
 case fieldAddr t x f=>simp only[Fr.fieldAddrV];rw[ho x (by simp[Op.operands])]
 case field t x f=>simp only[Fr.fieldV];rw[opv_congr (ho x (by simp[Op.operands]))]
 case indexAddr t x i=>simp only[Fr.indexAddrV1];rw[ho x (by simp[Op.operands]),opv_congr (ho i (by simp[Op.operands])),h2]
 case index t x i=>simp only[Fr.indexV1];rw[opv_congr (ho x (by simp[Op.operands])),opv_congr (ho i (by simp[Op.operands]))]
 case lookup t x i ok=>simp only[Fr.lookupV1];rw[opv_congr (ho x (by simp[Op.operands])),opv_congr (ho i (by simp[Op.operands])),h2]
 case typeAssert x t u ok=>simp only[Fr.assertV1];rw[opv_congr (ho x (by simp[Op.operands]))]
 case extract x i=>simp only[Fr.extractV];rw[opv_congr (ho x (by simp[Op.operands]))]
 case call c=>
  simp only[Fr.callRd];split
  ·simp only[Fr.builtinV1]
   rw[opvs_congr (fun x hx=>ho x (by simp only[Op.operands,Call.operands,Array.toList_append];exact List.mem_append_right _ hx)),h2]
  ·rfl
theorem rd_blind{X:Ctx}{d:Option Tmp}{o:Oper}(hr:mayRead o=false)(ha:isAlloc o=false)(ho:∀x∈o.op.operands.toList,G.opd x=F.opd x):rdV X G d o.op=rdV X F d o.op:=by
 unfold mayRead at hr;unfold isAlloc at ha;revert hr ha ho;generalize o.op=op;intro hr ha ho;cases op<;>simp only[rdV]<;>simp at hr ha
 case move x=>exact ho x (by simp[Op.operands])
 case assign x=>exact ho x (by simp[Op.operands])
 case pick c x y=>simp only[Fr.pickV];rw[opv_congr (ho c (by simp[Op.operands])),opv_congr (ho x (by simp[Op.operands])),opv_congr (ho y (by simp[Op.operands]))]
 case build t ps=>simp only[Fr.buildV];rw[parts_congr (fun p hp=>ho p.2 (by simp only[Op.operands];exact List.mem_map_of_mem hp))]
 case buildSlice t n ps=>simp only[Fr.buildSliceV];rw[parts_congr (fun p hp=>ho p.2 (by simp only[Op.operands];exact List.mem_map_of_mem hp))]
 case nilCheck x=>simp only[Fr.nilCheckV];rw[ho x (by simp[Op.operands])]
 case binOp bo t x y p=>simp only[Fr.binV2];rw[opv_congr (ho x (by simp[Op.operands])),opv_congr (ho y (by simp[Op.operands]))]
 case unOp uo t x=>simp only[Fr.unV1];rw[opv_congr (ho x (by simp[Op.operands]))]
 case makeInterface t x=>simp only[Fr.ifaceV];rw[opv_congr (ho x (by simp[Op.operands]))]
 case makeFunc fn p q=>simp only[Fr.funcV];rw[opvs_congr (fun x hx=>ho x (by simp only[Op.operands,Array.toList_append];exact List.mem_append_left _ hx)),opvs_congr (fun x hx=>ho x (by simp only[Op.operands,Array.toList_append];exact List.mem_append_right _ hx))]
 case fieldAddr t x f=>simp only[Fr.fieldAddrV];rw[ho x (by simp[Op.operands])]
 case field t x f=>simp only[Fr.fieldV];rw[opv_congr (ho x (by simp[Op.operands]))]
 case index t x i=>simp only[Fr.indexV1];rw[opv_congr (ho x (by simp[Op.operands])),opv_congr (ho i (by simp[Op.operands]))]
 case typeAssert x t u ok=>simp only[Fr.assertV1];rw[opv_congr (ho x (by simp[Op.operands]))]
 case extract x i=>simp only[Fr.extractV];rw[opv_congr (ho x (by simp[Op.operands]))]
def setE(e:Mp AV):OOut->OOut
 | .val v F=>.val v { F with e:=e }
 | .pan v F=>.pan v { F with e:=e }
 | .fail=>.fail
def setEo(e:Mp AV):Option Fr->Option Fr
 |some F=>some { F with e:=e }
 |none=>none
def setEp(e:Mp AV):Option (AV×Fr)->Option (AV×Fr)
 |some (v,F)=>some (v,{ F with e:=e })
 |none=>none
theorem write_setE{e:Mp AV}{p:AV}{vs:List AV}:({ F with e:=e }:Fr).write p vs=setEo e (F.write p vs):=by
 unfold Fr.write;split
 ·simp only
  split
  ·split<;>rfl
  ·rfl
 ·simp only
  split
  ·split<;>rfl
  ·rfl
 ·simp only
  split
  ·split
   ·split
    ·split<;>rfl
    ·rfl
   ·rfl
  ·rfl
 ·rfl
theorem append_setE{e:Mp AV}{t:TypeId}{x:AV}{new:List AV}:appendV P { F with e:=e } t x new=setEp e (appendV P F t x new):=by
 unfold appendV;split
 ·rfl
 ·split
  ·rfl
  ·split
   ·split<;>rfl
   ·split
    ·simp only;split<;>rfl
    ·simp only;split<;>rfl
    ·simp only
     split
     ·split<;>rfl
     ·rfl
    ·rfl
theorem ef_congr{X:Ctx}{cl:FuncId->List AV->Heap->COut}{rd:Nat->List AV->Heap->COut}{e:Mp AV}{d:Option Tmp}{op:Op}(hb:boxy op=false)(ho:∀x∈op.operands.toList,({ F with e:=e }:Fr).opd x=F.opd x) :
  efV X cl rd { F with e:=e } d op=setE e (efV X cl rd F d op):=by
 have hv:∀x∈op.operands.toList,({ F with e:=e }:Fr).opv x=F.opv x:=fun x hx=>opv_congr (ho x hx)
 cases op<;>simp only[efV]<;>first|(simp[boxy]at hb;done)|skip
 case store t p x=>
  simp only[Fr.storeE];rw[ho p (by simp[Op.operands]),hv x (by simp[Op.operands])];split
  ·split
   ·split
    ·rw[write_setE]
     cases Fr.write F _ _<;>rfl
    ·rfl
   ·rfl
  ·rfl
 case buildSlice t n ps=>
  simp only[Fr.rowE,Fr.buildSliceV];rw[parts_congr (fun p hp=>ho p.2 (by simp only[Op.operands];exact List.mem_map_of_mem hp))];split<;>rfl
 case makeMap t r=>simp only[Fr.mapE];split<;>rfl
 case makeSlice t l c=>
  simp only[Fr.makeSliceE];rw[hv l (by simp[Op.operands]),hv c (by simp[Op.operands])];split
  ·split
   ·split<;>rfl
   ·rfl
  ·rfl
 case convert t u x=>
  simp only[Fr.bytesE];rw[hv x (by simp[Op.operands])];split
  ·split<;>rfl
  ·rfl
 case mapUpdate t m k x=>
  simp only[Fr.mapUpdateE];rw[hv m (by simp[Op.operands]),hv k (by simp[Op.operands]),hv x (by simp[Op.operands])];split
  ·split
   ·split
    ·split<;>rfl
    ·rfl
   ·rfl
  ·rfl
 case range t x=>
  simp only[Fr.rangeE];rw[hv x (by simp[Op.operands])];split<;>rfl
 case next x st=>
  simp only[Fr.nextE];rw[hv x (by simp[Op.operands])];split
  ·split
   ·split<;>rfl
   ·rfl
  ·rfl
 case defer c=>
  simp only[Fr.deferE];split
  ·rename_i f hf hr
   rw[hv f (by simp[Op.operands,Call.operands,hf]),opvs_congr (fun x hx=>ho x (by simp only[Op.operands,Call.operands,Array.toList_append];exact List.mem_append_right _ hx))];split<;>rfl
  ·rfl
 case panic x=>
  simp only[Fr.panicE];rw[hv x (by simp[Op.operands])];split<;>rfl
 case call c =>
  have hargs:({ F with e:=e }:Fr).opvs c.args.toList=F.opvs c.args.toList:=opvs_congr (fun x hx=>ho x (by simp only[Op.operands,Call.operands,Array.toList_append];exact List.mem_append_right _ hx))
  have hout:∀r,outOf { F with e:=e } r=setE e (outOf F r):=fun r=>by cases r<;>rfl
  simp only[Fr.callOp];split
  ·rename_i f hf
   simp only[Fr.callE];rw[hv f (by simp[Op.operands,Call.operands,hf]),hargs];split
   ·exact hout _
   ·rfl
  ·rename_i x name hf
   simp only[Fr.invokeE];rw[hv x (by simp[Op.operands,Call.operands,hf]),hargs];split
   ·split
    ·exact hout _
    ·rfl
   ·rfl
  ·rename_i bi hf
   simp only[Fr.builtinE];split
   ·simp only[Fr.appendE]
    rw[hargs];have hok:∀t x new,okO (appendV X.P { F with e:=e } t x new)=setE e (okO (appendV X.P F t x new)):=fun t x new=>by
     rw[append_setE];cases appendV X.P F t x new with
     |none=>rfl
     |some p=>rfl
    split
    ·split
     ·split
      ·exact hok _ _ _
      ·rfl
     ·split
      ·rfl
      ·split
       ·exact hok _ _ _
       ·rfl
     ·split
      ·exact hok _ _ _
      ·rfl
     ·rfl
    ·rfl
   ·split
    ·rename_i x hx
     have hx':x∈c.args.toList:=by rw[hx];simp
     simp only[Fr.panicE];rw[hv x (by simp only[Op.operands,Call.operands,Array.toList_append];exact List.mem_append_right _ hx')];split<;>rfl
    ·rfl
   ·split
    ·simp only[Fr.recoverE]
     split
     ·rfl
     ·split<;>rfl
    ·rfl
   ·rfl
 all_goals rfl
end
end Go.AM
namespace Go.AM
open Go
variable[Keep]
section
variable{F G:Fr}{ops:Array Oper}{o:Oper}
def Agree(ops:Array Oper)(o:Oper)(F G:Fr):Prop:=∀t∈looksAt ops o,F.e.get t=G.e.get t
theorem Agree.opd(h:Agree ops o F G):∀x∈o.op.operands.toList,F.opd x=G.opd x:=by
 intro x hx;cases x with
 | tmp t =>
  have ht:t∈looksAt ops o:=by
   unfold looksAt;exact List.mem_append_left _ (List.mem_filterMap.2 ⟨.tmp t,hx,rfl⟩)
  simp only[Fr.opd,Fr.tmp];rw[h t ht]
 |_=>rfl
theorem Agree.yielded(h:Agree ops o F G){j:Nat}{b:Bool}(hg:o.guard=some (j,b)):yieldedA ops F j=yieldedA ops G j:=by
 unfold yieldedA;cases hj:ops[j]? with
 |none=>rfl
 | some p =>
  simp only;cases hd:p.dst with
  |none=>rfl
  | some t =>
   have ht:t∈looksAt ops o:=by
    unfold looksAt;refine List.mem_append_right _ ?_;rw[hg];simp[hj,hd]
   simp only;rw[h t ht]
theorem Agree.wanted(h:Agree ops o F G):wantedA ops F o=wantedA ops G o:=by
 unfold wantedA;cases hg:o.guard with
 |none=>rfl
 |some p=>obtain⟨j,b⟩:=p;simp only;rw[h.yielded hg]
theorem Agree.guardOk(h:Agree ops o F G):guardOk ops F o=guardOk ops G o:=by
 unfold Go.AM.guardOk;cases hg:o.guard with
 |none=>rfl
 | some p =>
  obtain⟨j,b⟩:=p;simp only;cases hj:ops[j]? with
  |none=>rfl
  | some p =>
   simp only;cases hd:p.dst with
   |none=>rfl
   | some t =>
    have ht:t∈looksAt ops o:=by
     unfold looksAt;refine List.mem_append_right _ ?_;rw[hg];simp[hj,hd]
    simp only;rw[h t ht]
theorem stepOp_same{X:Ctx}{cl:FuncId->List AV->Heap->COut}{rd:Nat->List AV->Heap->COut}{e:Mp AV}(hb:boxy o.op=false)(h:Agree ops o { F with e:=e } F) :
  stepOp X cl rd ops o { F with e:=e }=(match stepOp X cl rd ops o F with
   | .val v F'=>.val v { F' with e:=(({ F with e:=e }:Fr).put o.dst v).e }
   | .pan v F'=>.pan v { F' with e:=e }
   | .fail=>.fail):=by
 unfold stepOp;rw[h.guardOk,h.wanted];split
 ·rfl
 ·split
  ·simp only
   split
   ·rw[ef_congr hb h.opd]
    cases efV X cl rd F o.dst o.op with
    |val v F'=>simp only[setE];congr 1;cases o.dst<;>rfl
    |pan v F'=>rfl
    |fail=>rfl
   ·rw[rd_congr (G:={ F with e:=e }) (F:=F) h.opd rfl rfl]
    cases rdV X F o.dst o.op with
    |none=>rfl
    |some v=>simp only;congr 1;cases o.dst<;>rfl
  ·simp only;congr 1;cases o.dst<;>rfl
theorem stepOp_read{X:Ctx}{cl:FuncId->List AV->Heap->COut}{rd:Nat->List AV->Heap->COut}{v:AV}{F':Fr}(hf:G.f=F.f)(he:isEffAt X F.f o=false)(h:Agree ops o G F)(h1:stepOp X cl rd ops o F= .val v F')
  (hr:wantedA ops F o=true->rdV X G o.dst o.op=rdV X F o.dst o.op):stepOp X cl rd ops o G= .val v (G.put o.dst v)/\F'=F.put o.dst v:=by
 unfold stepOp at h1 ⊢;rw[h.guardOk,h.wanted,hf];split at h1
 ·cases h1
 ·rename_i hg
  rw[if_neg hg];split at h1
  ·rename_i hw
   rw[he]at h1 ⊢;simp only[Bool.false_eq_true,if_false]at h1 ⊢;rw[if_pos hw,hr hw];cases hv:rdV X F o.dst o.op with
   |none=>rw[hv]at h1;cases h1
   |some u=>rw[hv]at h1;cases h1;exact⟨rfl,rfl⟩
  ·rename_i hw
   rw[if_neg hw];cases h1;exact⟨rfl,rfl⟩
end
end Go.AM
namespace Go.AM
open Go
variable[Keep]
def wrB(ops:Array Oper)(t:Tmp)(i:Nat):Bool:=match ops[i]? with|some o=>o.dst==some t|none=>false
def efB(X:Ctx)(f:FuncId)(ops:Array Oper)(i:Nat):Bool:=match ops[i]? with|some o=>isEffD X f o|none=>false
def valOf(ts:List (Nat×Trace))(i:Nat):AV:=match traceOf ts i with|some t=>t.val|none=>.junk
def aftOf(F0:Fr)(ts:List (Nat×Trace))(i:Nat):Fr:=match traceOf ts i with|some t=>t.after|none=>F0
def envAt(ops:Array Oper)(F0:Fr)(ts:List (Nat×Trace))(A:List Nat)(t:Tmp):Option AV:=
 match (A.filter (wrB ops t)).getLast? with
 |none=>F0.e.get t
 |some z=>some (valOf ts z)
def memAt(X:Ctx)(ops:Array Oper)(F0:Fr)(ts:List (Nat×Trace))(A:List Nat):Fr:=
 match (A.filter (efB X F0.f ops)).getLast? with
 |none=>F0
 |some z=>aftOf F0 ts z
structure At(X:Ctx)(ops:Array Oper)(F0:Fr)(ts:List (Nat×Trace))(A:List Nat)(F:Fr):Prop where
 env:∀t,F.e.get t=envAt ops F0 ts A t
 mem:F={ memAt X ops F0 ts A with e:=F.e }
section
variable{X:Ctx}{cl:FuncId->List AV->Heap->COut}{rd:Nat->List AV->Heap->COut}{ops:Array Oper}{F0 F:Fr}{ts:List (Nat×Trace)}
theorem At.start:At X ops F0 ts [] F0:=⟨fun _=>rfl,rfl⟩
theorem envAt_snoc{A:List Nat}{i:Nat}{o:Oper}(ho:ops[i]? =some o)(t:Tmp):envAt ops F0 ts (A++[i]) t=if o.dst=some t then some (valOf ts i)else envAt ops F0 ts A t:=by
 unfold envAt;rw[List.filter_append];have hw:wrB ops t i=(o.dst==some t):=by simp[wrB,ho]
 by_cases h:o.dst=some t
 ·have:wrB ops t i=true:=by rw[hw];simpa using h
  simp[List.filter_cons,this,h]
 ·have:wrB ops t i=false:=by rw[hw];simpa using h
  simp[List.filter_cons,this,h]
theorem memAt_snoc{A:List Nat}{i:Nat}:memAt X ops F0 ts (A++[i])=if efB X F0.f ops i then aftOf F0 ts i else memAt X ops F0 ts A:=by
 unfold memAt;rw[List.filter_append];cases h:efB X F0.f ops i<;>simp[List.filter_cons,h]
theorem put_get(F:Fr)(d:Option Tmp)(v:AV)(t:Tmp):(F.put d v).e.get t=if d=some t then some v else F.e.get t:=by
 cases d with
 |none=>simp[Fr.put]
 |some s=>simp only[Fr.put,Mp.get_set];by_cases h:s=t<;>simp[h]
theorem write_keeps{p:AV}{vs:List AV}{F':Fr}(h:F.write p vs=some F'):F'.e=F.e/\F'.f=F.f:=by
 unfold Fr.write at h
 (repeat' split at h)<;>first|(cases h;done)|(cases h;exact⟨rfl,rfl⟩)
theorem append_keeps{P:Program}{t:TypeId}{x v:AV}{new:List AV}{F':Fr}(h:appendV P F t x new=some (v,F')):F'.e=F.e/\F'.f=F.f:=by
 unfold appendV at h
 (repeat' split at h)<;>first|(cases h;done)|(cases h;exact⟨rfl,rfl⟩)
theorem out_keeps{r:COut}{v:AV}{F':Fr}(h:outOf F r= .val v F'):F'.e=F.e/\F'.f=F.f:=by
 cases r<;>simp[outOf]at h;obtain⟨_,rfl⟩:=h;exact⟨rfl,rfl⟩
theorem ef_keeps{d:Option Tmp}{op:Op}{v:AV}{F':Fr}(h:efV X cl rd F d op= .val v F'):F'.e=F.e/\F'.f=F.f:=by
 have box:∀{w:AV},okO (newBox X F d w)= .val v F'->F'.e=F.e/\F'.f=F.f:=fun h=>by
  have h:=okO_val h;unfold newBox at h
  (repeat' split at h)<;>first|(cases h;done)|(cases h;exact⟨rfl,rfl⟩)
 cases op<;>simp only[efV]at h<;>first|(cases h;done)|skip
 case alloc t=>unfold Fr.allocE at h;split at h;exact box h;cases h
 case box t x=>unfold Fr.boxE at h;split at h;exact box h;cases h
 case store t p x=>
  unfold Fr.storeE at h;split at h
  ·split at h
   ·split at h
    ·split at h
     ·rename_i hw;cases h;exact write_keeps hw
     ·cases h
    ·cases h
   ·cases h
  ·cases h
 case buildSlice t n ps=>unfold Fr.rowE at h;(repeat' split at h)<;>first|(cases h;done)|(cases h;exact⟨rfl,rfl⟩)
 case makeMap t r=>unfold Fr.mapE at h;(repeat' split at h)<;>first|(cases h;done)|(cases h;exact⟨rfl,rfl⟩)
 case makeSlice t l c=>unfold Fr.makeSliceE at h;(repeat' split at h)<;>first|(cases h;done)|(cases h;exact⟨rfl,rfl⟩)
 case convert t u x=>unfold Fr.bytesE at h;(repeat' split at h)<;>first|(cases h;done)|(cases h;exact⟨rfl,rfl⟩)
 case mapUpdate t m k x=>unfold Fr.mapUpdateE at h;(repeat' split at h)<;>first|(cases h;done)|(cases h;exact⟨rfl,rfl⟩)
 case range t x=>unfold Fr.rangeE at h;(repeat' split at h)<;>first|(cases h;done)|(cases h;exact⟨rfl,rfl⟩)
 case next x st=>unfold Fr.nextE at h;(repeat' split at h)<;>first|(cases h;done)|(cases h;exact⟨rfl,rfl⟩)
 case defer c=>unfold Fr.deferE at h;(repeat' split at h)<;>first|(cases h;done)|(cases h;exact⟨rfl,rfl⟩)
 case panic x=>unfold Fr.panicE at h;(repeat' split at h)<;>first|(cases h;done)|(cases h;exact⟨rfl,rfl⟩)
 case call c=>
  unfold Fr.callOp at h;split at h
  ·unfold Fr.callE at h
   split at h
   ·exact out_keeps h
   ·cases h
  ·unfold Fr.invokeE at h
   split at h
   ·split at h
    ·exact out_keeps h
    ·cases h
   ·cases h
  ·unfold Fr.builtinE at h
   split at h
   ·unfold Fr.appendE at h
    (repeat' split at h)<;>first|(cases h;done)|exact append_keeps (okO_val h)
   ·split at h
    ·unfold Fr.panicE at h;(repeat' split at h)<;>first|(cases h;done)|(cases h;exact⟨rfl,rfl⟩)
    ·cases h
   ·split at h
    ·unfold Fr.recoverE at h;(repeat' split at h)<;>first|(cases h;done)|(cases h;exact⟨rfl,rfl⟩)
    ·cases h
   ·cases h
theorem stepOp_shape{o:Oper}{v:AV}{F':Fr}(h:stepOp X cl rd ops o F= .val v F') :
  (∀t,F'.e.get t=if o.dst=some t then some v else F.e.get t)/\(isEffAt X F.f o=false->F'={ F with e:=F'.e })/\F'.f=F.f:=by
 have put:∀u,(F.put o.dst u)={ F with e:=(F.put o.dst u).e }:=fun u=>by cases o.dst<;>rfl
 unfold stepOp at h;split at h
 ·cases h
 ·split at h
  ·split at h
   ·rename_i he
    split at h
    ·rename_i v1 F1 e1
     cases h;obtain⟨k1,k2⟩:=ef_keeps e1;refine⟨fun t=>by rw[put_get,k1],fun hn=>absurd (he.symm.trans hn) (by simp),?_⟩;cases o.dst<;>exact k2
    ·rename_i r hne
     rw[h]at hne;exact absurd rfl (hne v F')
   ·split at h
    ·cases h
     exact⟨fun t=>put_get _ _ _ _,fun _=>put _,by cases o.dst<;>rfl⟩
    ·cases h
  ·cases h
   exact⟨fun t=>put_get _ _ _ _,fun _=>put _,by cases o.dst<;>rfl⟩
theorem stepD_shape{o:Oper}{v:AV}{F':Fr}(h:stepD X cl rd ops o F= .val v F') :
  (∀t,F'.e.get t=if o.dst=some t then some v else F.e.get t)/\(isEffD X F.f o=false->F'={ F with e:=F'.e })/\F'.f=F.f:=by
 have put:∀u,(F.put o.dst u)={ F with e:=(F.put o.dst u).e }:=fun u=>by cases o.dst<;>rfl
 unfold stepD at h;split at h
 ·split at h
  ·cases h
   exact⟨fun t=>put_get _ _ _ _,fun _=>put _,by cases o.dst<;>rfl⟩
  ·cases h
 ·rename_i ha
  obtain⟨h1,h2,h3⟩:=stepOp_shape h;exact⟨h1,fun hn=>h2 (by
   unfold isEffD at hn;have ha:isAlloc o=false:=by simpa using ha
   rw[ha]at hn;simpa using hn),h3⟩
end
end Go.AM
namespace Go.AM
open Go
variable[Keep]
structure StepAt(X:Ctx)(cl:FuncId->List AV->Heap->COut)(rd:Nat->List AV->Heap->COut)(ops:Array Oper)(F0:Fr)(ts:List (Nat×Trace))(A:List Nat)(i:Nat)(o:Oper)(FA FB:Fr):Prop where
 op:ops[i]? =some o
 tr:traceOf ts i=some ⟨FA,valOf ts i,FB⟩
 st:stepD X cl rd ops o FA= .val (valOf ts i) FB
 at_:At X ops F0 ts A FA
 fn:FA.f=F0.f
def StepsAt(X:Ctx)(cl:FuncId->List AV->Heap->COut)(rd:Nat->List AV->Heap->COut)(ops:Array Oper)(F0:Fr)(ts:List (Nat×Trace))(A0 L:List Nat):Prop:=
 ∀A i B,L=A++i::B->∃o FA FB,StepAt X cl rd ops F0 ts (A0++A) i o FA FB
section
variable{X:Ctx}{cl:FuncId->List AV->Heap->COut}{rd:Nat->List AV->Heap->COut}{ops:Array Oper}{F0:Fr}{ts:List (Nat×Trace)}
theorem At.step{A0:List Nat}{F F1:Fr}{i:Nat}{o:Oper}{v:AV}(h:At X ops F0 ts A0 F)(hf:F.f=F0.f)(ho:ops[i]? =some o)(hs:stepD X cl rd ops o F= .val v F1)(ht:traceOf ts i=some ⟨F,v,F1⟩) :
  At X ops F0 ts (A0++[i]) F1/\F1.f=F0.f:=by
 obtain⟨k1,k2,k3⟩:=stepD_shape hs;have hv:valOf ts i=v:=by simp[valOf,ht]
 have ha:aftOf F0 ts i=F1:=by simp[aftOf,ht]
 refine⟨⟨fun t=>?_,?_⟩,k3.trans hf⟩
 ·rw[k1,envAt_snoc ho,hv,h.env]
 ·rw[memAt_snoc,ha]
  cases he:efB X F0.f ops i with
  |true=>rfl
  |false=>
   have:isEffD X F.f o=false:=by simp[efB,ho]at he;rw[hf];exact he
   have e1:=k2 this;rw[h.mem]at e1;simp only[Bool.false_eq_true,if_false];exact e1
theorem traceOf_cons_ne{i j:Nat}{t:Trace}{ts:List (Nat×Trace)}(h:j≠i):traceOf ((i,t)::ts) j=traceOf ts j:=by simp[traceOf,h]
theorem runD_norm:∀(L A0:List Nat) (F F':Fr) (ts1:List (Nat×Trace)),L.Nodup->(∀i∈L,traceOf ts i=traceOf ts1 i)->At X ops F0 ts A0 F->F.f=F0.f->runD X cl rd ops L F= .norm F' ts1->
  At X ops F0 ts (A0++L) F'/\StepsAt X cl rd ops F0 ts A0 L:=by
 intro L;induction L with
 |nil=>
  intro A0 F F' ts1 _ _ ha _ h;simp only[runD]at h;cases h;exact⟨by simpa using ha,fun A i B e=>by simp at e⟩
 | cons i L ih =>
  intro A0 F F' ts1 hn ht ha hf h;simp only[runD]at h;split at h
  ·cases h
  ·rename_i o ho
   split at h
   ·rename_i v F1 hs
    split at h
    ·rename_i F'' ts2 hr
     cases h;have hnd:=List.nodup_cons.1 hn;have hti:traceOf ts i=some ⟨F,v,F1⟩:=by rw[ht i (by simp)];simp[traceOf]
     have htr:∀j∈L,traceOf ts j=traceOf ts2 j:=fun j hj=>by
      rw[ht j (by simp[hj])];exact traceOf_cons_ne fun e=>hnd.1 (e▸hj)
     obtain⟨a1,f1⟩:=ha.step hf ho hs hti;obtain⟨q1,q2⟩:=ih (A0++[i]) F1 F' ts2 hnd.2 htr a1 f1 hr;refine⟨by simpa using q1,fun A j B e=>?_⟩;cases A with
     |nil=>
      simp at e;obtain⟨rfl,rfl⟩:=e;have hv:valOf ts i=v:=by simp[valOf,hti]
      exact⟨o,F,F1,ho,by rw[hv];exact hti,by rw[hv];exact hs,by simpa using ha,hf⟩
     |cons x A=>
      simp at e;obtain⟨rfl,rfl⟩:=e;have:=q2 A j B rfl;simpa using this
    ·cases h
    ·cases h
   ·cases h
   ·cases h
theorem runD_pan:∀(L A0:List Nat) (F F':Fr) (i:Nat) (v:AV) (ts1:List (Nat×Trace)),L.Nodup->(∀j∈L,traceOf ts j=traceOf ts1 j)->At X ops F0 ts A0 F->F.f=F0.f->runD X cl rd ops L F= .pan i v F' ts1->
  ∃A B o FA,L=A++i::B/\ops[i]? =some o/\stepD X cl rd ops o FA= .pan v F'/\At X ops F0 ts (A0++A) FA/\FA.f=F0.f/\StepsAt X cl rd ops F0 ts A0 A/\∀j,(traceOf ts1 j).isSome=true->j∈A:=by
 intro L;induction L with
 |nil=>intro A0 F F' i v ts1 _ _ _ _ h;simp only[runD]at h;cases h
 | cons k L ih =>
  intro A0 F F' i v ts1 hn ht ha hf h;simp only[runD]at h;split at h
  ·cases h
  ·rename_i o ho
   split at h
   ·rename_i u F1 hs
    split at h
    ·cases h
    ·rename_i i' v' F'' ts2 hr
     cases h;have hnd:=List.nodup_cons.1 hn;have hti:traceOf ts k=some ⟨F,u,F1⟩:=by rw[ht k (by simp)];simp[traceOf]
     have htr:∀j∈L,traceOf ts j=traceOf ts2 j:=fun j hj=>by
      rw[ht j (by simp[hj])];exact traceOf_cons_ne fun e=>hnd.1 (e▸hj)
     obtain⟨a1,f1⟩:=ha.step hf ho hs hti;obtain⟨A,B,o',FA,q1,q2,q3,q4,q5,q6,q7⟩:=ih (A0++[k]) F1 F' i v ts2 hnd.2 htr a1 f1 hr;refine⟨k::A,B,o',FA,by rw[q1];rfl,q2,q3,by simpa using q4,q5,fun A' j B' e=>?_,fun j hj=>?_⟩
     ·cases A' with
      |nil=>
       simp at e;obtain⟨rfl,rfl⟩:=e;have hv:valOf ts k=u:=by simp[valOf,hti]
       exact⟨o,F,F1,ho,by rw[hv];exact hti,by rw[hv];exact hs,by simpa using ha,hf⟩
      |cons x A'=>
       simp at e;obtain⟨rfl,e⟩:=e;have:=q6 A' j B' e;simpa using this
     ·by_cases e:j=k
      ·subst e;simp
      ·rw[traceOf_cons_ne e]at hj
       exact List.mem_cons_of_mem _ (q7 j hj)
    ·cases h
   ·rename_i v' F'' hs
    cases h;exact⟨[],L,o,F,rfl,ho,hs,by simpa using ha,hf,fun A j B e=>by simp at e,fun j hj=>by simp[traceOf]at hj⟩
   ·cases h
end
end Go.AM
namespace Go.AM
open Go
variable[Keep]
def bitsStep(acc:Array Nat)(o:Oper):Nat:=o.after.foldl (fun s e=>if Region.binds .any e then s ||| 2 ^ e.on ||| acc.getD e.on 0 else s) 0
theorem fold_bits(acc:Array Nat)(i:Nat):∀(es:List Edge) (s:Nat),(es.foldl (fun s e=>if Region.binds .any e then s ||| 2 ^ e.on ||| acc.getD e.on 0 else s) s).testBit i=true->
  s.testBit i=true\/∃e∈es,Region.binds .any e=true/\(e.on=i\/(acc.getD e.on 0).testBit i=true):=by
 intro es;induction es with
 |nil=>intro s h;exact .inl h
 | cons e es ih =>
  intro s h;simp only[List.foldl_cons]at h;rcases ih _ h with h|⟨e',he',hb,h⟩
  ·split at h
   ·rename_i hb
    simp only[Nat.testBit_or,Bool.or_eq_true,Nat.testBit_two_pow,decide_eq_true_eq]at h;rcases h with(h|h)|h
    ·exact .inl h
    ·exact .inr ⟨e,by simp,hb,.inl h⟩
    ·exact .inr ⟨e,by simp,hb,.inr h⟩
   ·exact .inl h
  ·exact .inr ⟨e',by simp[he'],hb,h⟩
theorem fold_push:∀(l:List Oper) (acc:Array Nat),let r:=l.foldl (fun acc o=>acc.push (bitsStep acc o)) acc
  (∀k,k<acc.size->r[k]? =acc[k]?)/\r.size=acc.size+l.length /\
  ∀k o,l[k]? =some o->∃acc':Array Nat,acc'.size=acc.size+k/\(∀m,m<acc'.size->r[m]? =acc'[m]?)/\r[acc.size+k]? =some (bitsStep acc' o):=by
 intro l;induction l with
 |nil=>intro acc r;exact⟨fun _ _=>rfl,rfl,fun k o h=>by simp at h⟩
 | cons x l ih =>
  intro acc r;obtain⟨h1,h2,h3⟩:=ih (acc.push (bitsStep acc x));refine⟨fun k hk=>?_,?_,fun k o h=>?_⟩
  ·have:=h1 k (by simp;omega)
   have e:r[k]? =_:=this;rw[e,Array.getElem?_push,if_neg (by omega)]
  ·have e:r.size=_:=h2
   rw[e];simp;omega
  ·cases k with
   | zero =>
    simp at h;subst h;refine⟨acc,rfl,fun m hm=>?_,?_⟩
    ·have:=h1 m (by simp;omega)
     have e:r[m]? =_:=this;rw[e,Array.getElem?_push,if_neg (by omega)]
    ·have:=h1 acc.size (by simp)
     have e:r[acc.size]? =_:=this;rw[Nat.add_zero,e];simp
   |succ k=>
    obtain⟨acc',q1,q2,q3⟩:=h3 k o (by simpa using h);refine⟨acc',by rw[q1];simp;omega,q2,?_⟩;have e:(acc.push (bitsStep acc x)).size+k=acc.size+(k+1):=by simp;omega
    rw[e]at q3;exact q3
theorem waits_edge{ops:Array Oper}{j i:Nat}(h:waits ops j i=true):∃o,ops[j]? =some o/\∃e∈o.after.toList,Region.binds .any e=true/\(e.on=i\/(e.on<j/\waits ops e.on i=true)):=by
 unfold waits at h;have hb:Region.before ops=ops.toList.foldl (fun acc o=>acc.push (bitsStep acc o)) #[]:=by
  unfold Region.before;rw[<-Array.foldl_toList];rfl
 obtain⟨_,h2,h3⟩:=fold_push ops.toList #[];rw[<-hb]at h2 h3;cases ho:ops[j]? with
 | none =>
  exfalso
  have hj:ops.size <=j:=by
   rcases Nat.lt_or_ge j ops.size with h' |h'
   ·rw[Array.getElem?_eq_getElem h']at ho;cases ho
   ·exact h'
  have:(Region.before ops).getD j 0=0:=by
   rw[Array.getD_eq_getD_getElem?,Array.getElem?_eq_none (by rw[h2];simp;omega)];rfl
  rw[this]at h;simp at h
 | some o =>
  obtain⟨acc',q1,q2,q3⟩:=h3 j o (by simpa using ho);simp only[List.size_toArray,List.length_nil,Nat.zero_add]at q1 q3;have e1:(Region.before ops).getD j 0=bitsStep acc' o:=by rw[Array.getD_eq_getD_getElem?,q3];rfl
  rw[e1]at h;unfold bitsStep at h;rw[<-Array.foldl_toList]at h;rcases fold_bits acc' i _ _ h with h|⟨e,he,hbd,h⟩
  ·simp at h
  ·refine⟨o,rfl,e,he,hbd,?_⟩
   rcases h with h|h
   ·exact .inl h
   ·have hlt:e.on<acc'.size:=by
     rcases Nat.lt_or_ge e.on acc'.size with h' |h'
     ·exact h'
     ·rw[Array.getD_eq_getD_getElem?,Array.getElem?_eq_none h']at h
      simp at h
    refine .inr ⟨by omega,?_⟩;unfold waits;rw[Array.getD_eq_getD_getElem?,q2 e.on hlt,<-Array.getD_eq_getD_getElem?];exact h
def Closed(ops:Array Oper)(D:Nat->Bool):Prop:=∀j o,D j=true->ops[j]? =some o->∀e∈o.after.toList,Region.binds .any e=true->D e.on=true
def Ready(ops:Array Oper)(D:Nat->Bool)(i:Nat):Prop:=D i=false/\∃o,ops[i]? =some o/\∀e∈o.after.toList,Region.binds .any e=true->D e.on=true
theorem Closed.waits{ops:Array Oper}{D:Nat->Bool}(h:Closed ops D):∀(n j i:Nat),j <=n->D j=true->waits ops j i=true->D i=true:=by
 intro n;induction n with
 |zero=>
  intro j i hj hd hw;obtain⟨o,ho,e,he,hb,h1⟩:=waits_edge hw;rcases h1 with rfl|⟨h1,_⟩
  ·exact h j o hd ho e he hb
  ·omega
 |succ n ih=>
  intro j i hj hd hw;obtain⟨o,ho,e,he,hb,h1⟩:=waits_edge hw;rcases h1 with rfl|⟨h1,h2⟩
  ·exact h j o hd ho e he hb
  ·exact ih e.on i (by omega) (h j o hd ho e he hb) h2
theorem Ready.waits{ops:Array Oper}{D:Nat->Bool}{i x:Nat}(hc:Closed ops D)(h:Ready ops D i)(hw:waits ops i x=true):D x=true:=by
 obtain⟨o,ho,e,he,hb,h1⟩:=waits_edge hw;obtain⟨_,o',ho',hr⟩:=h;rw[ho]at ho';cases ho';have:=hr e he hb;rcases h1 with rfl|⟨_,h2⟩
 ·exact this
 ·exact hc.waits e.on e.on x (Nat.le_refl _) this h2
def addD(D:Nat->Bool)(i:Nat):Nat->Bool:=fun j=>j==i||D j
theorem Closed.add{ops:Array Oper}{D:Nat->Bool}{i:Nat}(hc:Closed ops D)(h:Ready ops D i):Closed ops (addD D i):=by
 intro j o hj ho e he hb;simp only[addD,Bool.or_eq_true,beq_iff_eq]at hj ⊢;rcases hj with rfl|hj
 ·obtain⟨_,o',ho',hr⟩:=h
  rw[ho]at ho';cases ho';exact .inr (hr e he hb)
 ·exact .inr (hc j o hj ho e he hb)
section
variable{X:Ctx}{ops:Array Oper}
def allocAt(ops:Array Oper)(i:Nat):Bool:=match ops[i]? with|some o=>isAlloc o|none=>false
def restAt(ops:Array Oper)(i:Nat):Bool:=match ops[i]? with|some o=>!isAlloc o|none=>false
theorem canon_eq:canon ops=(List.range ops.size).filter (allocAt ops)++(List.range ops.size).filter (restAt ops):=rfl
theorem canon_mem{i:Nat}:i∈canon ops↔i<ops.size:=by
 rw[canon_eq];simp only[List.mem_append,List.mem_filter,List.mem_range];constructor
 ·rintro(h|h)<;>exact h.1
 ·intro h
  unfold allocAt restAt;rw[Array.getElem?_eq_getElem h];simp only;cases isAlloc ops[i]<;>simp[h]
theorem canon_nodup:(canon ops).Nodup:=by
 rw[canon_eq,List.nodup_append];refine⟨List.nodup_range.filter _,List.nodup_range.filter _,fun x hx y hy e=>?_⟩;subst e;have h1:=(List.mem_filter.1 hx).2;have h2:=(List.mem_filter.1 hy).2;unfold allocAt at h1;unfold restAt at h2;cases ho:ops[x]? with
 |none=>rw[ho]at h1;cases h1
 |some o=>rw[ho]at h1 h2;simp only at h1 h2;rw[h1]at h2;cases h2
theorem canon_alloc{A B:List Nat}{i:Nat}(h:canon ops=A++i::B)(hi:allocAt ops i=true):∀z∈A,allocAt ops z=true:=by
 rw[canon_eq]at h;intro z hz;generalize e1:(List.range ops.size).filter (allocAt ops)=p at h;generalize e2:(List.range ops.size).filter (restAt ops)=q at h;rcases List.append_eq_append_iff.1 h with⟨c,h1,h2⟩|⟨c,h1,h2⟩
 ·
  exfalso
  have:i∈q:=by rw[h2];simp
  rw[<-e2]at this;have h3:=(List.mem_filter.1 this).2;unfold restAt at h3;unfold allocAt at hi;cases ho:ops[i]? with
  |none=>rw[ho]at hi;cases hi
  |some o=>rw[ho]at hi h3;simp only at hi h3;rw[hi]at h3;cases h3
 ·have:z∈p:=by rw[h1];simp[hz]
  rw[<-e1]at this;exact(List.mem_filter.1 this).2
theorem loose_mem(w:Nat->Nat->Bool):∀(A:List Nat) (i:Nat) (B:List Nat) (j:Nat),j∈B->w j i=false->(i,j)∈loosePairs w (A++i::B):=by
 intro A;induction A with
 |nil=>
  intro i B j hj hw;simp only[List.nil_append,loosePairs];refine List.mem_append_left _ (List.mem_map.2 ⟨j,List.mem_filter.2 ⟨hj,by simp[hw]⟩,rfl⟩)
 |cons a A ih=>
  intro i B j hj hw;simp only[List.cons_append,loosePairs];exact List.mem_append_right _ (ih i B j hj hw)
theorem split_two{l:List Nat}{x y:Nat}(hx:x∈l)(hy:y∈l)(hne:x≠y):(∃A B,l=A++x::B/\y∈B)\/(∃A B,l=A++y::B/\x∈B):=by
 obtain⟨A,B,e⟩:=List.append_of_mem hx;rw[e]at hy;rcases List.mem_append.1 hy with h|h
 ·obtain⟨C,D,e'⟩:=List.append_of_mem h
  refine .inr ⟨C,D++x::B,by rw[e,e'];simp,by simp⟩
 ·rcases List.mem_cons.1 h with h|h
  ·exact absurd h.symm hne
  ·exact .inl ⟨A,B,e,h⟩
theorem drawOk_pair{f:FuncId}(h:drawOk X f ops=true){A B:List Nat}{i j:Nat}(e:canon ops=A++i::B)(hj:j∈B)(hw:waits ops j i=false) :
  ∃x y,ops[i]? =some x/\ops[j]? =some y/\apartT ops x y=true/\(isEffD X f x=true->isEffD X f y=true->False):=by
 unfold drawOk at h;simp only[Bool.and_eq_true]at h;have:=List.all_eq_true.1 h.2 (i,j) (by rw[e];exact loose_mem _ A i B j hj hw);unfold pairOk at this;simp only at this;split at this
 ·rename_i x y hx hy
  simp only[Bool.and_eq_true,Bool.not_eq_true']at this;exact⟨x,y,hx,hy,this.1,fun h1 h2=>by rw[h1,h2]at this;simp at this⟩
 ·cases this
theorem drawOk_shape{f:FuncId}(h:drawOk X f ops=true){i:Nat}{o:Oper}(ho:ops[i]? =some o) :
  (∀e∈o.after.toList,Region.binds .any e=true->e.on<i)/\(isAlloc o=true->o.guard=none/\o.after=#[]/\∃d,o.dst=some d/\(X.hts f).contains d=false)/\(isAlloc o=false->boxy o.op=false)/\(∀c,o.op≠.defer c):=by
 unfold drawOk at h;simp only[Bool.and_eq_true]at h;have hi:i<ops.size:=by
  rcases Nat.lt_or_ge i ops.size with h' |h'
  ·exact h'
  ·rw[Array.getElem?_eq_none h']at ho;cases ho
 have hs:=h.1;unfold shapeOk at hs;have:=List.all_eq_true.1 hs i (List.mem_range.2 hi);simp only[ho,Bool.and_eq_true]at this;obtain⟨h1,h2⟩:=this;refine⟨fun e he hb=>?_,fun ha=>?_,fun ha=>?_,fun c e=>?_⟩
 ·rw[<-Array.all_toList]at h1
  have:=List.all_eq_true.1 h1 e he;simp only[hb,Bool.not_true,Bool.or_false,decide_eq_true_eq]at this;exact this
 ·unfold isAlloc at ha
  split at ha
  ·rename_i t e
   rw[e]at h2;simp only[Bool.and_eq_true]at h2;obtain⟨⟨g1,g2⟩,g3⟩:=h2;refine⟨by simpa using g1,by simpa using g2,?_⟩;cases hd:o.dst with
   |none=>rw[hd]at g3;cases g3
   |some d=>rw[hd]at g3;exact⟨d,rfl,by simpa using g3⟩
  ·cases ha
 ·unfold isAlloc at ha
  unfold boxy;split at ha
  ·cases ha
  ·rename_i hne
   split
   ·rename_i t e;exact absurd e (hne t)
   ·rename_i t x e;rw[e]at h2;cases h2
   ·rfl
 ·rw[e]at h2;cases h2
theorem apart_spec{x y:Oper}(h:apartT ops x y=true):(∀d,x.dst=some d->d∉looksAt ops y)/\(∀d,x.dst=some d->y.dst≠some d)/\(∀d,y.dst=some d->d∉looksAt ops x):=by
 unfold apartT at h;simp only[Bool.and_eq_true]at h;refine⟨fun d hd=>?_,fun d hd=>?_,fun d hd=>?_⟩
 ·have:=h.1;rw[hd]at this;simp at this;exact this.1
 ·have:=h.1;rw[hd]at this;simp at this;exact this.2
 ·have:=h.2;rw[hd]at this;simp at this;exact this
theorem alloc_one{f:FuncId}(h:drawOk X f ops=true){i j:Nat}{x y:Oper}(hx:ops[i]? =some x)(hy:ops[j]? =some y)(ax:isAlloc x=true)(ay:isAlloc y=true){s:Tmp}(sx:x.dst=some s)(sy:y.dst=some s):i=j:=by
 have hi:i∈canon ops:=canon_mem.2 (by
  rcases Nat.lt_or_ge i ops.size with h' |h'
  ·exact h'
  ·rw[Array.getElem?_eq_none h']at hx;cases hx)
 have hj:j∈canon ops:=canon_mem.2 (by
  rcases Nat.lt_or_ge j ops.size with h' |h'
  ·exact h'
  ·rw[Array.getElem?_eq_none h']at hy;cases hy)
 have hw:∀{a b:Nat} {z:Oper},ops[a]? =some z->isAlloc z=true->waits ops a b=false:=fun {a b z} hz az=>by
  cases hw:waits ops a b with
  |false=>rfl
  |true=>
   obtain⟨o,ho,e,he,_⟩:=waits_edge hw;rw[hz]at ho;cases ho;obtain⟨_,h2,_⟩:=(drawOk_shape h hz).2.1 az;rw[h2]at he;simp at he
 rcases Nat.decEq i j with hne|e
 ·exfalso
  rcases split_two hi hj hne with⟨A,B,e,hm⟩|⟨A,B,e,hm⟩
  ·obtain⟨x',y',hx',hy',ha,_⟩:=drawOk_pair h e hm (hw hy ay)
   rw[hx]at hx';rw[hy]at hy';cases hx';cases hy';exact(apart_spec ha).2.1 s sx sy
  ·obtain⟨x',y',hx',hy',ha,_⟩:=drawOk_pair h e hm (hw hx ax)
   rw[hy]at hx';rw[hx]at hy';cases hx';cases hy';exact(apart_spec ha).2.1 s sy sx
 ·exact e
theorem filter_split{D p:Nat->Bool}{A B:List Nat}{i:Nat}(hi:D i=false)(hA:∀z∈A,p z=true->D z=true)(hB:∀z∈B,p z=true->D z=false):((A++i::B).filter D).filter p=A.filter p:=by
 rw[List.filter_append,List.filter_cons,hi];simp only[Bool.false_eq_true,if_false,List.filter_append];have h1:(A.filter D).filter p=A.filter p:=by
  rw[List.filter_filter];apply List.filter_congr;intro z hz;cases hp:p z with
  |false=>simp
  |true=>simp[hA z hz hp]
 have h2:(B.filter D).filter p=[]:=by
  rw[List.filter_filter,List.filter_eq_nil_iff];intro z hz;cases hp:p z with
  |false=>simp
  |true=>simp[hB z hz hp]
 rw[h1,h2,List.append_nil]
theorem filter_add{D:Nat->Bool}{A B:List Nat}{i:Nat}(hn:(A++i::B).Nodup)(hi:D i=false):(A++i::B).filter (addD D i)=A.filter D++i::B.filter D:=by
 rw[List.filter_append,List.filter_cons];have hii:addD D i i=true:=by simp[addD]
 rw[hii,if_pos rfl];have hne:∀z,z∈A\/z∈B->z≠i:=by
  rw[List.nodup_append]at hn;obtain⟨_,h2,h3⟩:=hn;rintro z (hz|hz) rfl
  ·exact h3 z hz z (by simp) rfl
  ·exact(List.nodup_cons.1 h2).1 hz
 have hc:∀l:List Nat,(∀z∈l,z≠i)->l.filter (addD D i)=l.filter D:=fun l hl=>by
  apply List.filter_congr;intro z hz;simp[addD,hl z hz]
 rw[hc A fun z hz=>hne z (.inl hz),hc B fun z hz=>hne z (.inr hz)]
theorem filter_plain{D:Nat->Bool}{A B:List Nat}{i:Nat}(hi:D i=false):(A++i::B).filter D=A.filter D++B.filter D:=by
 rw[List.filter_append,List.filter_cons,hi];rfl
theorem first_with(p:Nat->Bool):∀(l:List Nat),(∃x∈l,p x=true)->∃A x B,l=A++x::B/\p x=true/\∀z∈A,p z=false:=by
 intro l;induction l with
 |nil=>rintro⟨x,hx,_⟩;simp at hx
 | cons a l ih =>
  intro h;cases ha:p a with
  |true=>exact⟨[],a,l,rfl,ha,by simp⟩
  | false =>
   obtain⟨x,hx,hp⟩:=h;have hx:x∈l:=by
    rcases List.mem_cons.1 hx with rfl|hx
    ·rw[ha]at hp;cases hp
    ·exact hx
   obtain⟨A,y,B,e,h1,h2⟩:=ih ⟨x,hx,hp⟩;refine⟨a::A,y,B,by rw[e];rfl,h1,fun z hz=>?_⟩;rcases List.mem_cons.1 hz with rfl|hz
   ·exact ha
   ·exact h2 z hz
theorem last_with(p:Nat->Bool):∀(l:List Nat),(∃x∈l,p x=true)->∃A x B,l=A++x::B/\p x=true/\∀z∈B,p z=false:=by
 intro l;induction l with
 |nil=>rintro⟨x,hx,_⟩;simp at hx
 | cons a l ih =>
  intro h;by_cases hl:∃x∈l,p x=true
  ·obtain⟨A,y,B,e,h1,h2⟩:=ih hl
   exact⟨a::A,y,B,by rw[e];rfl,h1,h2⟩
  ·obtain⟨x,hx,hp⟩:=h
   rcases List.mem_cons.1 hx with rfl|hx
   ·refine⟨[],x,l,rfl,hp,fun z hz=>?_⟩
    cases h:p z with
    |false=>rfl
    |true=>exact absurd ⟨z,hz,h⟩ hl
   ·exact absurd ⟨x,hx,hp⟩ hl
end
end Go.AM
namespace Go.AM
open Go
variable[Keep]
section
variable{X:Ctx}{P:Program}{w w':World}{C:Cfg}{lam:Nat->Option Nat}{ms:List Nat}{F:Fr}{b:Frame}{a:Act}{cs:List Frame}
theorem St.withE(s:St C lam ms F b a w cs){e:Mp AV}(h:∀t,({ F with e:=e }:Fr).tmp t= .junk\/({ F with e:=e }:Fr).tmp t=F.tmp t):St C lam ms { F with e:=e } b a w cs:=
  { wr := s.wr, box := s.box, inj := s.inj, mark := s.mark, nodup := s.nodup, live := s.live, osig := s.osig, df := s.df, up := s.up, fn := s.fn, rnd := s.rnd,
    env:=fun t=>by
      rcases h t with h|h
      · rw[h];trivial
      · rw[h];exact s.env t }
def lamDrop(lam:Nat->Option Nat)(t:Nat):Nat->Option Nat:=fun s=>if s=t then none else lam s
theorem own_drop{t β:Nat}(h:Own (lamDrop lam t) ms β):Own lam ms β:=by
 rcases h with⟨s,hs⟩|h
 ·unfold lamDrop at hs
  split at hs
  ·cases hs
  ·exact .inl ⟨s,hs⟩
 ·exact .inr h
theorem St.prepBox(s:St C lam ms F b a w cs){t:Nat}{cells:List AV}:St C (lamDrop lam t) ms { F with lm:=F.lm.set t (nextGen F.lm t,cells) } b a w cs:=by
 refine { wr:=s.wr,env:=fun t'=>?_,box:=fun t' β ht=>?_,inj:=fun t1 t2 β h1 h2=>?_,mark:=s.mark,nodup:=s.nodup,live:=fun β ho=>s.live β (own_drop ho),osig:=fun β x v ho=>s.osig β x v (own_drop ho),df:=s.df,up:=s.up,fn:=s.fn,rnd:=s.rnd }
 ·have:=s.env t'
  show SR C (lamDrop lam t) (F.lm.set t (nextGen F.lm t,cells)) (F.tmp t') _;revert this;cases F.tmp t'<;>intro this<;>first|exact this|skip
  rename_i s' g1 off;obtain⟨g',cs',β',k1,k2,k3,k4⟩:=this;by_cases e:t=s'
  ·subst e
   have hn:nextGen F.lm t=g'+1:=by simp[nextGen,k1]
   refine⟨nextGen F.lm t,cells,β',by simp,by omega,k3,fun e'=>?_⟩;omega
  ·refine⟨g',cs',β',by simp[e,k1],k2,k3,fun e'=>?_⟩
   unfold lamDrop;rw[if_neg (fun h=>e h.symm)];exact k4 e'
 ·unfold lamDrop at ht
  split at ht
  ·cases ht
  ·rename_i e
   obtain⟨g1,cells1,c1,k1,k2⟩:=s.box t' β ht;exact⟨g1,cells1,c1,by show (F.lm.set t _).get t'=_;rw[Mp.get_set,if_neg (fun h=>e h.symm)];exact k1,k2⟩
 ·unfold lamDrop at h1 h2
  split at h1
  ·cases h1
  ·split at h2
   ·cases h2
   ·exact s.inj t1 t2 β h1 h2
theorem Ext.drop{h:Heap}{t:Nat}:Ext C h (Own lam ms) w C h (Own (lamDrop lam t) ms) w:=
 { Ext.refl C h (Own lam ms) w with own:=fun _ _ o=>.inr (own_drop o) }
theorem prepAll_ok:∀(l:List Oper) (lam:Nat->Option Nat) (F F0:Fr),St C lam ms F b a w cs->prepAll X l F=some F0->
  ∃lam0,St C lam0 ms F0 b a w cs/\Ext C F.hp (Own lam ms) w C F0.hp (Own lam0 ms) w/\(∀s,lam s=none->lam0 s=none)/\(∀o∈l,isAlloc o=true->∀s,o.dst=some s->lam0 s=none)/\F0.e=F.e/\F0.f=F.f:=by
 intro l;induction l with
 |nil=>
  intro lam F F0 s h;simp only[prepAll,Option.some.injEq]at h;subst h;exact⟨lam,s,.refl _ _ _ _,fun _ h=>h,by simp,rfl,rfl⟩
 | cons o l ih =>
  intro lam F F0 s h;simp only[prepAll]at h;split at h
  ·rename_i t d ho hd
   split at h
   ·rename_i z hz
    split at h
    ·cases h
    ·obtain⟨lam0,h1,h2,h3,h4,h5,h6⟩:=ih _ _ _ (s.prepBox (t:=d) (cells:=z.cells)) h
     refine⟨lam0,h1,Ext.drop.trans h2,fun s hs=>h3 s (by unfold lamDrop;split<;>first|rfl|exact hs),fun o' ho' ha s hs=>?_,h5,h6⟩
     rcases List.mem_cons.1 ho' with rfl|ho'
     ·rw[hd]at hs
      cases hs;exact h3 d (by simp[lamDrop])
     ·exact h4 o' ho' ha s hs
   ·cases h
  ·cases h
  ·rename_i hne1 hne2
   obtain⟨lam0,h1,h2,h3,h4,h5,h6⟩:=ih _ _ _ s h;refine⟨lam0,h1,h2,h3,fun o' ho' ha s hs=>?_,h5,h6⟩;rcases List.mem_cons.1 ho' with rfl|ho'
   ·unfold isAlloc at ha
    split at ha
    ·rename_i t e;exact absurd hs (hne1 t s e)
    ·cases ha
   ·exact h4 o' ho' ha s hs
theorem prepAll_other:∀(l:List Oper) (F F0:Fr) (s:Tmp),prepAll X l F=some F0->(¬∃o∈l,∃t,o.op= .alloc t/\o.dst=some s)->F0.lm.get s=F.lm.get s:=by
 intro l;induction l with
 |nil=>intro F F0 s h _;simp only[prepAll,Option.some.injEq]at h;rw[h]
 | cons o l ih =>
  intro F F0 s h hn;have hn':¬∃o∈l,∃t,o.op= .alloc t/\o.dst=some s:=fun⟨o',h1,h2⟩=>hn ⟨o',by simp[h1],h2⟩;simp only[prepAll]at h;split at h
  ·rename_i t d ho hd
   split at h
   ·split at h
    ·cases h
    ·have:=ih _ _ s h hn'
     rw[this];show (F.lm.set d _).get s=_;rw[Mp.get_set,if_neg];intro e;subst e;exact hn ⟨o,by simp,t,ho,hd⟩
   ·cases h
  ·cases h
  ·exact ih _ _ s h hn'
theorem prepAll_get:∀(l:List Oper) (F F0:Fr) (s:Tmp) (t:TypeId),prepAll X l F=some F0->(∀o∈l,∀t',o.op= .alloc t'->o.dst=some s->t'=t)->(∃o∈l,o.op= .alloc t/\o.dst=some s)->
  ∃z g,zeroT X.P t=some z/\isTuple z=false/\F0.lm.get s=some (g,z.cells):=by
 intro l;induction l with
 |nil=>rintro F F0 s t _ _ ⟨o,ho,_⟩;simp at ho
 | cons o l ih =>
  intro F F0 s t h hu hex;have hu':∀o∈l,∀t',o.op= .alloc t'->o.dst=some s->t'=t:=fun o' ho'=>hu o' (by simp[ho']);by_cases hl:∃o∈l,∃t,o.op= .alloc t/\o.dst=some s
  ·obtain⟨o',h1,t',h2,h3⟩:=hl
   have:=hu' o' h1 t' h2 h3;subst this;simp only[prepAll]at h;split at h
   ·split at h
    ·split at h
     ·cases h
     ·exact ih _ _ s _ h hu' ⟨o',h1,h2,h3⟩
    ·cases h
   ·cases h
   ·exact ih _ _ s _ h hu' ⟨o',h1,h2,h3⟩
  ·obtain⟨o',h1,h2,h3⟩:=hex
   rcases List.mem_cons.1 h1 with rfl|h1
   ·simp only[prepAll,h2,h3]at h
    split at h
    ·rename_i z hz
     split at h
     ·cases h
     ·rename_i ht
      refine⟨z,nextGen F.lm s,hz,by simpa using ht,?_⟩;rw[prepAll_other l _ _ s h hl];simp
    ·cases h
   ·exact absurd ⟨o',h1,t,h2,h3⟩ hl
theorem St.layBox (s : St C lam ms F b a w cs) {t g : Nat} {cells : List AV} {c : Array Value} {T : TypeId} (hl : lam t = none) (hg : F.lm.get t = some (g, cells)) (hr : VRs C cells c) (h1 : ∀ x ∈ cells, x.one = true) :
    let w':World:={ w with heap:=w.heap.push (.cells c T) }
    let lam':=lamSet lam t w.heap.size
    SR C lam' F.lm (.lptr t g 0) (.pointer (some ⟨w.heap.size,0,none⟩))/\St C lam' ms F b a w' cs/\Ext C F.hp (Own lam ms) w C F.hp (Own lam' ms) w':=by
  intro w' lam';have hh:w'.heap=w.heap.push (.cells c T):=rfl;have hown:∀ β,Own lam' ms β->Own lam ms β \/ β=w.heap.size:=by
    rintro β (⟨t',ht⟩|h)
    · simp only [lam', lamSet] at ht
      split at ht
      · cases ht;exact .inr rfl
      · exact .inl (.inl ⟨t',ht⟩)
    · exact .inl (.inr h)
  refine⟨⟨g,cells,w.heap.size,hg,Nat.le_refl _,rfl,fun _=>by simp[lam',lamSet]⟩,?_,?_⟩
  · refine { wr := ⟨fun x v h => ?_, fun id blk h => ?_, s.wr.inj, s.wr.apart, s.wr.fresh, s.wr.base.on (fun _ _ e => e) (fun x v e => heap_push hh (s.wr.sig_lt e))⟩, env := fun t' => ?_, box := fun t' β ht => ?_, inj := fun t1 t2 β h1 h2 => ?_,
             mark:=fun m hm=>(heap_push hh (s.own_lt (.inr hm))).trans (s.mark m hm),nodup:=s.nodup,live:=fun β ho l=>?_,osig:=fun β x v ho h e=>?_,df:=s.df,up:=s.up,fn:=s.fn,rnd:=s.rnd }
    · have hb := s.wr.sig_lt h
      have:=s.wr.sig x v h;unfold World.cell? at this ⊢;rw[heap_push hh hb];exact this
    · obtain ⟨L, k1, k2⟩ := s.wr.blk id blk h
      exact⟨L,k1,k2.same (.refl C) (heap_push hh k2.lt)⟩
    · have := s.env t'
      revert this;cases F.tmp t'<;>intro this<;>first|exact this|skip
      rename_i s' g1 off;obtain⟨g',cs',β',k1,k2,k3,k4⟩:=this;refine⟨g',cs',β',k1,k2,k3,fun e'=>?_⟩;have k5:=k4 e';simp only[lam',lamSet];split
      · rename_i e
        subst e;rw[hl]at k5;cases k5
      · exact k5
    · simp only [lam', lamSet] at ht
      split at ht
      · rename_i e
        subst e;cases ht;exact⟨g,cells,c,hg,⟨T,0,0,by simp[w'],.inl (Nat.le_refl _)⟩,hr,h1⟩
      · obtain ⟨g, cells', c', k1, k2, k3, k4⟩ := s.box t' β ht
        exact⟨g,cells',c',k1,k2.same (heap_push hh k2.lt),k3,k4⟩
    · simp only [lam', lamSet] at h1 h2
      split at h1<;>split at h2
      · rename_i e1 e2;rw[e1,e2]
      · cases h1
        have:=s.own_lt (.inl ⟨t2,h2⟩);omega
      · cases h2
        have:=s.own_lt (.inl ⟨t1,h1⟩);omega
      · exact s.inj t1 t2 β h1 h2
    · rcases hown β ho with ho | rfl
      · exact s.live β ho l
      · have := s.wr.live_lt l
        omega
    · rcases hown β ho with ho | rfl
      · exact s.osig β x v ho h e
      · have := s.wr.sig_lt h
        omega
  · exact { le := .refl C, os := rfl, tape := rfl, output := rfl, size := by simp [w'], same := fun β h _ _ => heap_push hh h, live := fun β _ l => .inl l, own := fun β hb o => by
              rcases hown β o with o|rfl
              · exact .inr o
              · omega
            sig:=fun _ _ _ h=>.inl h,next:=Nat.le_refl _ }
theorem write_lm{cl:FuncId->List AV->Heap->COut}(s:St C lam ms F b a w cs){p:Operand}{pv:AV}{vs:List AV}{F':Fr}{t:Tmp}(hp:F.opd p=some pv)(h:F.write pv vs=some F')(hl:lam t=none):F'.lm.get t=F.lm.get t:=by
 unfold Fr.write at h;split at h
 ·rename_i s' g off
  split at h
  ·rename_i g' cells hg
   split at h
   ·rename_i hh
    cases h;obtain⟨rfl,_⟩:=hh;show (F.lm.set s' _).get t=_;rw[Mp.get_set,if_neg];intro e;subst e;have hs:=s.opd hp;obtain⟨g1,cs1,β,e1,_,_,e2⟩:=hs;rw[hg]at e1;cases e1;have:=e2 rfl;rw[hl]at this;cases this
   ·cases h
  ·cases h
 ·split at h
  ·split at h
   ·cases h;rfl
   ·cases h
  ·cases h
 ·split at h
  ·split at h
   ·split at h
    ·split at h
     ·cases h;rfl
     ·cases h
    ·cases h
   ·cases h
  ·cases h
 ·cases h
theorem append_lm{t:TypeId}{x v:AV}{new:List AV}{F':Fr}(h:appendV P F t x new=some (v,F')):F'.lm=F.lm:=by
 unfold appendV at h
 (repeat' split at h)<;>first|(cases h;done)|(cases h;rfl)
theorem out_lm{r:COut}{v:AV}{F':Fr}(h:outOf F r= .val v F'):F'.lm=F.lm:=by
 cases r<;>simp[outOf]at h;obtain⟨_,rfl⟩:=h;rfl
theorem ef_lm{cl:FuncId->List AV->Heap->COut}{rd:Nat->List AV->Heap->COut}(s:St C lam ms F b a w cs){d:Option Tmp}{op:Op}{v:AV}{F':Fr}{t:Tmp}(hb:boxy op=false)(h:efV X cl rd F d op= .val v F')(hl:lam t=none):F'.lm.get t=F.lm.get t:=by
 have same:F'.lm=F.lm->F'.lm.get t=F.lm.get t:=fun h=>by rw[h]
 cases op<;>simp only[efV]at h<;>first|(cases h;done)|(simp[boxy]at hb;done)|skip
 case store ty p x=>
  unfold Fr.storeE at h;split at h
  ·rename_i pv xv hp hx
   split at h
   ·split at h
    ·split at h
     ·rename_i hw;cases h;exact write_lm (cl:=cl) s hp hw hl
     ·cases h
    ·cases h
   ·cases h
  ·cases h
 case buildSlice ty n ps=>refine same ?_;unfold Fr.rowE at h;(repeat' split at h)<;>first|(cases h;done)|(cases h;rfl)
 case makeMap ty r=>refine same ?_;unfold Fr.mapE at h;(repeat' split at h)<;>first|(cases h;done)|(cases h;rfl)
 case makeSlice ty l c=>refine same ?_;unfold Fr.makeSliceE at h;(repeat' split at h)<;>first|(cases h;done)|(cases h;rfl)
 case convert ty u x=>refine same ?_;unfold Fr.bytesE at h;(repeat' split at h)<;>first|(cases h;done)|(cases h;rfl)
 case mapUpdate ty m k x=>refine same ?_;unfold Fr.mapUpdateE at h;(repeat' split at h)<;>first|(cases h;done)|(cases h;rfl)
 case range ty x=>refine same ?_;unfold Fr.rangeE at h;(repeat' split at h)<;>first|(cases h;done)|(cases h;rfl)
 case next x st=>refine same ?_;unfold Fr.nextE at h;(repeat' split at h)<;>first|(cases h;done)|(cases h;rfl)
 case defer c=>refine same ?_;unfold Fr.deferE at h;(repeat' split at h)<;>first|(cases h;done)|(cases h;rfl)
 case panic x=>refine same ?_;unfold Fr.panicE at h;(repeat' split at h)<;>first|(cases h;done)|(cases h;rfl)
 case call c=>
  refine same ?_;unfold Fr.callOp at h;split at h
  ·unfold Fr.callE at h
   split at h
   ·exact out_lm h
   ·cases h
  ·unfold Fr.invokeE at h
   split at h
   ·split at h
    ·exact out_lm h
    ·cases h
   ·cases h
  ·unfold Fr.builtinE at h
   split at h
   ·unfold Fr.appendE at h
    (repeat' split at h)<;>first|(cases h;done)|exact append_lm (okO_val h)
   ·split at h
    ·unfold Fr.panicE at h;(repeat' split at h)<;>first|(cases h;done)|(cases h;rfl)
    ·cases h
   ·split at h
    ·unfold Fr.recoverE at h;(repeat' split at h)<;>first|(cases h;done)|(cases h;rfl)
    ·cases h
   ·cases h
theorem stepOp_lm{cl:FuncId->List AV->Heap->COut}{rd:Nat->List AV->Heap->COut}{ops:Array Oper}(s:St C lam ms F b a w cs){o:Oper}{v:AV}{F':Fr}{t:Tmp}(hb:boxy o.op=false)(h:stepOp X cl rd ops o F= .val v F')(hl:lam t=none):F'.lm.get t=F.lm.get t:=by
 have put:∀(G:Fr) u,(G.put o.dst u).lm=G.lm:=fun G u=>by cases o.dst<;>rfl
 unfold stepOp at h;split at h
 ·cases h
 ·split at h
  ·split at h
   ·split at h
    ·rename_i v1 F1 e1
     cases h;rw[put];exact ef_lm s hb e1 hl
    ·rename_i r hne
     rw[h]at hne;exact absurd rfl (hne v F')
   ·split at h
    ·cases h;rw[put]
    ·cases h
  ·cases h;rw[put]
end
end Go.AM
