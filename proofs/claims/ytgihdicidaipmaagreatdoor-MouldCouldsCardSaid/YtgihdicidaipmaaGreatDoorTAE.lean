/-
    A part of the proof: contracts of functions.
-/
import Derived.Test.YtgihdicidaipmaaGreatDoorTAD
import Derived.Shelf.Strconv.Itoa3
import Derived.Shelf.Strings.OnBuilder
set_option linter.unusedSectionVars false
set_option linter.unusedVariables false
set_option linter.unusedSimpArgs false
set_option maxRecDepth 100000
set_option maxHeartbeats 16000000
namespace Go.AM
open Go Go.Proofs
variable[Keep]
attribute [local irreducible] W WO WO1 WD WQ WT thenQ blockQ endR isRet retK Cl ClR
def inB(x lo hi:Int):Bool:=decide (x >=lo)&&decide (x <=hi)
def spB(a b lo hi:Int):Bool:=decide (a >=lo)&&decide (a <=b)&&decide (b <=hi)
noncomputable def i0:Itr:=fun _=>none
theorem i0_sound:Sound (dX i0):=dX_sound (fun f g h=>by cases h)
def sp119:List AV->Option AV
 | [.int .i64 x,.int .i64 lo,.int .i64 hi]=>some (.bool (inB x lo hi))
 |_=>none
theorem p119:∀args v,sp119 args=some v->v.pur=true:=by
 intro args v h;unfold sp119 at h;split at h
 ·cases h;rfl
 ·cases h
theorem F119:IntrFn Tryz.prog 119 (pureFn sp119):=by
 refine pure_fn (X:=(dX i0)) i0_sound p119 ?_;intro args v h;unfold sp119 at h;split at h
 ·cases h
  rename_i x lo hi;refine ClR.walk (c:=_) rfl Tryz.func119 rfl (by kernel_rfl) rfl isRet_fail ?_;simp only[entryEnv,Nat.reduceAdd];repeat' (first|refine goS ?_|(refine go2 ?_ ?_<;>intro hh)|fail)
  all_goals (simp only[rV Tryz.func119,Tryz.results119];first|exact J5|refine J6 ?_)
  all_goals simp[inB, *]
 ·cases h
theorem K119{X:Ctx}(hX:X.intr 119=some (pureFn sp119))(x lo hi:Int)(h:Heap):Cl X 119 [.int .i64 x,.int .i64 lo,.int .i64 hi] h (.ret (.bool (inB x lo hi)) h none):=Cl.intr hX rfl
def sp80:List AV->Option AV
 | [.int .i64 x,.int .i64 lo,.int .i64 hi]=>some (.bool (inB x lo hi))
 |_=>none
theorem p80:∀args v,sp80 args=some v->v.pur=true:=by
 intro args v h;unfold sp80 at h;split at h
 ·cases h;rfl
 ·cases h
theorem F80:IntrFn Tryz.prog 80 (pureFn sp80):=by
 refine pure_fn (X:=(dX i0)) i0_sound p80 ?_;intro args v h;unfold sp80 at h;split at h
 ·cases h
  rename_i x lo hi;refine ClR.walk (c:=_) rfl Tryz.func80 rfl (by kernel_rfl) rfl isRet_fail ?_;simp only[entryEnv,Nat.reduceAdd];repeat' (first|refine goS ?_|(refine go2 ?_ ?_<;>intro hh)|fail)
  all_goals (simp only[rV Tryz.func80,Tryz.results80];first|exact J5|refine J6 ?_)
  all_goals simp[inB, *]
 ·cases h
theorem K80{X:Ctx}(hX:X.intr 80=some (pureFn sp80))(x lo hi:Int)(h:Heap):Cl X 80 [.int .i64 x,.int .i64 lo,.int .i64 hi] h (.ret (.bool (inB x lo hi)) h none):=Cl.intr hX rfl
def sp173:List AV->Option AV
 | [.agg [.int .i64 a,.int .i64 b],.int .i64 lo,.int .i64 hi]=>some (.bool (spB a b lo hi))
 |_=>none
theorem p173:∀args v,sp173 args=some v->v.pur=true:=by
 intro args v h;unfold sp173 at h;split at h
 ·cases h;rfl
 ·cases h
theorem F173:IntrFn Tryz.prog 173 (pureFn sp173):=by
 refine pure_fn (X:=(dX i0)) i0_sound p173 ?_;intro args v h;unfold sp173 at h;split at h
 ·cases h
  rename_i a b lo hi;refine ClR.walk (c:=_) rfl Tryz.func173 rfl (by kernel_rfl) rfl isRet_fail ?_;simp only[entryEnv,Nat.reduceAdd];repeat' (first|refine goS ?_|(refine go2 ?_ ?_<;>intro hh)|fail)
  all_goals (simp only[rV Tryz.func173,Tryz.results173];first|exact J5|refine J6 ?_)
  all_goals simp[spB, *]
 ·cases h
theorem K173{X:Ctx}(hX:X.intr 173=some (pureFn sp173))(a b lo hi:Int)(h:Heap):Cl X 173 [.agg [.int .i64 a,.int .i64 b],.int .i64 lo,.int .i64 hi] h (.ret (.bool (spB a b lo hi)) h none):=Cl.intr hX rfl
def sp108:List AV->Option AV
 | [.agg [.int .i64 a,.int .i64 b],.int .i64 lo,.int .i64 hi]=>some (.bool (spB a b lo hi))
 |_=>none
theorem p108:∀args v,sp108 args=some v->v.pur=true:=by
 intro args v h;unfold sp108 at h;split at h
 ·cases h;rfl
 ·cases h
theorem F108:IntrFn Tryz.prog 108 (pureFn sp108):=by
 refine pure_fn (X:=(dX i0)) i0_sound p108 ?_;intro args v h;unfold sp108 at h;split at h
 ·cases h
  rename_i a b lo hi;refine ClR.walk (c:=_) rfl Tryz.func108 rfl (by kernel_rfl) rfl isRet_fail ?_;simp only[entryEnv,Nat.reduceAdd];repeat' (first|refine goS ?_|(refine go2 ?_ ?_<;>intro hh)|fail)
  all_goals (simp only[rV Tryz.func108,Tryz.results108];first|exact J5|refine J6 ?_)
  all_goals simp[spB, *]
 ·cases h
theorem K108{X:Ctx}(hX:X.intr 108=some (pureFn sp108))(a b lo hi:Int)(h:Heap):Cl X 108 [.agg [.int .i64 a,.int .i64 b],.int .i64 lo,.int .i64 hi] h (.ret (.bool (spB a b lo hi)) h none):=Cl.intr hX rfl
noncomputable def c1:Itr
 |119=>some (pureFn sp119)
 |80=>some (pureFn sp80)
 |_=>none
theorem c1_sound:Sound (dX c1):=dX_sound (fun f g h=>by
 unfold c1 at h;split at h
 ·cases h;exact F119
 ·cases h;exact F80
 ·cases h)
def sp77:List AV->Option AV
 | [.int .i64 x]=>some (.bool (inB x 1 36))
 |_=>none
theorem p77:∀args v,sp77 args=some v->v.pur=true:=by
 intro args v h;unfold sp77 at h;split at h
 ·cases h;rfl
 ·cases h
theorem F77:IntrFn Tryz.prog 77 (pureFn sp77):=by
 refine pure_fn (X:=(dX c1)) c1_sound p77 ?_;intro args v h;unfold sp77 at h;split at h
 ·cases h
  refine ClR.walk (c:=_) rfl Tryz.func77 rfl (by kernel_rfl) rfl isRet_fail ?_;simp only[entryEnv,Nat.reduceAdd];repeat' (first|refine goS ?_|refine uJ (K119 rfl _ _ _ _) ?_|refine uJ (K80 rfl _ _ _ _) ?_|(refine go2 ?_ ?_<;>intro hh)|fail)
  all_goals (simp only[rV Tryz.func77,Tryz.results77];first|exact J5|refine J6 ?_)
  all_goals rfl
 ·cases h
theorem K77{X:Ctx}(hX:X.intr 77=some (pureFn sp77))(x:Int)(h:Heap):Cl X 77 [.int .i64 x] h (.ret (.bool (inB x 1 36)) h none):=Cl.intr hX rfl
def sp25:List AV->Option AV
 | [.int .i64 x]=>some (.bool (inB x 1 36))
 |_=>none
def sp100:List AV->Option AV
 | [.int .i64 x]=>some (.bool (inB x 0 255))
 |_=>none
theorem p100:∀args v,sp100 args=some v->v.pur=true:=by
 intro args v h;unfold sp100 at h;split at h
 ·cases h;rfl
 ·cases h
theorem F100:IntrFn Tryz.prog 100 (pureFn sp100):=by
 refine pure_fn (X:=(dX c1)) c1_sound p100 ?_;intro args v h;unfold sp100 at h;split at h
 ·cases h
  refine ClR.walk (c:=_) rfl Tryz.func100 rfl (by kernel_rfl) rfl isRet_fail ?_;simp only[entryEnv,Nat.reduceAdd];repeat' (first|refine goS ?_|refine uJ (K119 rfl _ _ _ _) ?_|refine uJ (K80 rfl _ _ _ _) ?_|(refine go2 ?_ ?_<;>intro hh)|fail)
  all_goals (simp only[rV Tryz.func100,Tryz.results100];first|exact J5|refine J6 ?_)
  all_goals rfl
 ·cases h
theorem K100{X:Ctx}(hX:X.intr 100=some (pureFn sp100))(x:Int)(h:Heap):Cl X 100 [.int .i64 x] h (.ret (.bool (inB x 0 255)) h none):=Cl.intr hX rfl
end Go.AM
namespace Go.AM
open Go Go.Proofs Go.Shelf Go.Sort Go.RowKit
variable[Keep]
theorem lib_left{P:Program}{f:FuncId}{C:Cfg}{h:Heap}{w:World}{v:AV}{vs:Array Value}(r:WR C h w)
  (hc:Calls P f vs w fun e w'=>∃u,e= .returned u/\VR C v u/\w'.os=w.os/\w'.tape=w.tape/\w'.output=w.output/\w.heap.size <=w'.heap.size/\∀ β,β<w.heap.size->w'.heap[β]? =w.heap[β]?) (cs:List Frame) :
  Left P f C h w (lone (Frame.enter P f vs .normal) cs w) cs (.ret v h none):=by
 obtain⟨e,w',fr,⟨u,rfl,hv,h1,h2,h3,h4,hs⟩,hst,hfn,hlv⟩:=hc cs;have hcell:∀x u,w.cell? x=some u->w'.cell? x=some u:=by
  intro x u hx;have hlt:x.block<w.heap.size:=by
   rcases Nat.lt_or_ge x.block w.heap.size with h|h
   ·exact h
   ·simp[World.cell?,Array.getElem?_eq_none h]at hx
  unfold World.cell? at hx ⊢;rw[hs _ hlt];exact hx
 refine⟨C,w',fr,u,hst,hlv,hfn,hv,⟨fun x v e=>hcell _ _ (r.sig x v e),fun id blk e=>?_,r.inj,r.apart,r.fresh,r.base.on (fun _ _ e=>e) (fun x v e=>hs _ (WR.sig_lt (F:=Fr.mk 0 false .nil .nil h [] none) r e))⟩,⟨.refl C,h1,h2,h3,h4,fun β hb _ _=>hs β hb,fun _ _ l=>.inl l,fun _ _ o=>.inr o,fun _ _ _ s=>.inl s,Nat.le_refl _⟩⟩;obtain⟨L,k1,k2⟩:=r.blk id blk e;exact⟨L,k1,k2.same (.refl C) (hs _ k2.lt)⟩
def digF:Nat->Nat->List UInt8
 |0,_=>[]
 |n+1,u=>if Nat.blt u 10 then [UInt8.ofNat (48+u)]else digF n (u / 10)++[UInt8.ofNat (48+u % 10)]
theorem digF_ok:∀(n u:Nat),u<10 ^ n->0<n->digF n u=Lib.decDigits u:=by
 intro n;induction n with
 |zero=>intro u _ h;omega
 | succ n ih =>
  intro u hu _;rw[Lib.decDigits];simp only[digF];by_cases h:u<10
  ·rw[if_pos (by simpa[Nat.blt_eq]using h),dif_pos h]
  ·rw[if_neg (by simpa[Nat.blt_eq]using h),dif_neg h,ih]
   ·rw[Nat.pow_succ]at hu;omega
   ·rcases Nat.eq_zero_or_pos n with rfl|h'
    ·simp at hu;omega
    ·exact h'
def itoaF(n:Int):List UInt8:=match n with
 | .ofNat u=>digF 20 u
 | .negSucc u=>45::digF 20 (u+1)
def atOnce(spec:List AV->Option AV):List AV->Heap->Option (AV×Heap):=fun args h=>match spec args with|some v=>some (v,h)|none=>none
def TabK (P:Program):Prop:=∀ w:World,(∀ x v o,Keep.sig x=some v->Keep.obj x.block=some o->w.heap[x.block]? =some o)->Lib.TabIs P w "internal/strconv.uint64pow10" .u64 Lib.pow10Tab
end Go.AM
