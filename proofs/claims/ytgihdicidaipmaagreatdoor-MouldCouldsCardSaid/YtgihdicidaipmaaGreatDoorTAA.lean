/-
    A part of the proof: contracts of functions.
-/
import Derived.Control
import Derived.AtR
import Derived.Laws.Strings
import Derived.Laws.Cells
import Derived.Laws.StructEq
import Derived.Laws.BytesArg
namespace Go.AM
open Go
inductive Mp(α:Type) where
 |nil
 |node (v:Option α) (l r:Mp α)
variable{α:Type}
def Mp.get:Mp α->Nat->Option α
 | .nil,_=>none
 | .node v _ _,0=>v
 | .node _ l r,k+1=>bif Nat.beq (k % 2) 0 then l.get (k / 2)else r.get (k / 2)
def Mp.upd:Nat->Mp α->Nat->Option α->Mp α
 |0,t,_,_=>t
 |_+1,.nil,0,x=>.node x .nil .nil
 |n+1,.nil,k+1,x=>bif Nat.beq (k % 2) 0 then .node none (Mp.upd n .nil (k / 2) x) .nil else .node none .nil (Mp.upd n .nil (k / 2) x)
 |_+1,.node _ l r,0,x=>.node x l r
 |n+1,.node v l r,k+1,x=>bif Nat.beq (k % 2) 0 then .node v (Mp.upd n l (k / 2) x) r else .node v l (Mp.upd n r (k / 2) x)
def Mp.map(f:α->α):Mp α->Mp α
 | .nil=>.nil
 | .node v l r=>.node (match v with|some x=>some (f x)|none=>none) (l.map f) (r.map f)
def Mp.set(t:Mp α)(k:Nat)(x:α):Mp α:=Mp.upd (k+1) t k (some x)
def Mp.del(t:Mp α)(k:Nat):Mp α:=Mp.upd (k+1) t k none
inductive AV where
 |junk
 |bool (b:Bool)
 |int (k:IntKind) (n:Int)
 |str (s:List UInt8)
 |nilptr
 |ptr (id off:Nat)
 |eptr (id sz i j:Nat)
 |lptr (s g off:Nat)
 |vptr (cells:List AV)
 |nilslice
 |vslice (l:List AV)
 |vempty
 |row (id off len:Nat)
 |nilmap
 |map (id:Nat)
 |func (fn:Fn) (first captured:List AV)
 |yield (id:Nat)
 |nilfunc
 |niliface
 |iface (t:TypeId) (v:AV)
 |agg (cs:List AV)
 |tuple (vs:List AV)
 deriving Inhabited
def AV.cells:AV->List AV
 | .agg cs=>cs
 |v=>[v]
def ofCells(f:Value->Option AV):List Value->Option (List AV)
 | []=>some []
 |v::r=>match f v,ofCells f r with
  |some a,some l=>some (a::l)
  |_,_=>none
def scalarFn(fn:Fn)(a b:Array Value):Option AV:=
 match fn with
 | .func f=>if a.size=0/\b.size=0 then some (.func (.func f) [] [])else none
 |_=>none
def ofScalar:Value->Option AV
 | .bool b=>some (.bool b)
 | .int k n=>some (.int k n)
 | .string s=>some (.str s.data.toList)
 | .pointer none=>some .nilptr
 | .slice none n c=>if n=0/\c=0 then some .nilslice else none
 | .map none=>some .nilmap
 | .nilFunc=>some .nilfunc
 | .nilIface=>some .niliface
 | .func fn a b=>scalarFn fn a b
 |_=>none
def ofValue:Value->Option AV
 | .agg cs=>(ofCells ofScalar cs.toList).map .agg
 | .tuple cs=>(ofCells ofScalar cs.toList).map .tuple
 |v=>ofScalar v
inductive Blk where
 |var (cells:List AV)
 |rw (sz:Nat) (elems:List AV)
 |mp (entries:List (AV×AV))
 |loop (f:FuncId) (e:Mp AV) (params:List Tmp) (assign body:Code) (st:LoopState) (pend:Option Code)
 |iter (s:List UInt8) (pos:Nat)
structure Heap where
 next:Nat
 m:Mp Blk
def Heap.get(h:Heap)(id:Nat):Option Blk:=h.m.get id
def Heap.put(h:Heap)(id:Nat)(b:Blk):Heap:={ h with m:=h.m.set id b }
def Heap.del(h:Heap)(id:Nat):Heap:={ h with m:=h.m.del id }
def Heap.new(h:Heap)(b:Blk):Heap:={ next:=h.next+1,m:=h.m.set h.next b }
structure Fr where
 f:FuncId
 rnd:Bool
 e:Mp AV
 lm:Mp (Nat×List AV)
 hp:Heap
 df:List (AV×List AV)
 up:Option (AV×Bool)
def undefA:AV:=.tuple []
def Fr.tmp(F:Fr)(t:Tmp):AV:=match F.e.get t with|some v=>v|none=>undefA
def Fr.put(F:Fr)(d:Option Tmp)(v:AV):Fr:=
 match d with
 |some t=>{ F with e:=F.e.set t v }
 |none=>F
def Fr.opd(F:Fr):Operand->Option AV
 | .tmp t=>some (F.tmp t)
 | .const v=>ofValue v
 | .func f=>some (.func (.func f) [] [])
 | .global _=>none
def outer:AV->Bool
 | .lptr .. | .junk=>false
 |_=>true
def Fr.opv(F:Fr)(x:Operand):Option AV:=
 match F.opd x with
 |some v=>if outer v then some v else none
 |none=>none
def Fr.opvs(F:Fr):List Operand->Option (List AV)
 | []=>some []
 |x::r=>match F.opv x,F.opvs r with
  |some a,some l=>some (a::l)
  |_,_=>none
def noBox:AV->AV
 | .lptr ..=>.junk
 |v=>v
inductive COut where
 |ret (v:AV) (h:Heap) (up:Option (AV×Bool))
 |pan (v:AV) (h:Heap) (up:Option (AV×Bool))
 |fail
inductive Out where
 |norm (F:Fr)
 |exit (id:Nat) (F:Fr)
 |ret (F:Fr)
 |pan (v:AV) (F:Fr)
 |fail
abbrev Itr:=FuncId->Option (List AV->Heap->Option (AV×Heap))
structure Ctx where
 P:Program
 hts:FuncId->List Tmp
 rws:FuncId->List Tmp
 frz:FuncId->Bool
 intr:Itr
def isAggT(P:Program)(t:TypeId):Bool:=
 match P.underlying t with
 |some (.struct _)|some (.array _ _)=>true
 |_=>false
def szT(P:Program)(t:TypeId):Nat:=match P.info? t with|some i=>i.size|none=>0
def lay(P:Program)(t:TypeId):Option (Bool×Nat):=
 match P.underlying t,P.info? t with
 |some d,some i=>some (match d with| .struct _=>true| .array _ _=>true|_=>false,i.size)
 |_,_=>none
def zeroT(P:Program)(t:TypeId):Option AV:=match P.info? t with|some i=>(match i.zero with|some z=>ofValue z|none=>none)|none=>none
def elemT(P:Program)(t:TypeId):Option TypeId:=match P.underlying t with|some (.slice e)=>some e|_=>none
def Fr.mem(F:Fr):AV->Option (List AV×Nat)
 | .lptr s g off=>match F.lm.get s with
  |some (g',cs)=>if g=g' then some (cs,off)else none
  |none=>none
 | .ptr id off=>match F.hp.get id with
  |some (.var cs)=>some (cs,off)
  |_=>none
 | .eptr id sz i j=>match F.hp.get id with
  |some (.rw sz' el)=>if sz=sz' then (match el[i]? with|some v=>some (v.cells,j)|none=>none)else none
  |_=>none
 | .vptr cs=>some (cs,0)
 |_=>none
def readAt(agg:Bool)(n:Nat)(cs:List AV)(off:Nat):Option AV:=
 if agg then (if off+n <=cs.length then some (.agg ((cs.drop off).take n))else none)else cs[off]?
def splice(cs:List AV)(off:Nat)(vs:List AV):List AV:=cs.take off++(vs++cs.drop (off+vs.length))
def readT(P:Program)(t:TypeId)(cs:List AV)(off:Nat):Option AV:=
 match lay P t with
 |some (ag,n)=>readAt ag n cs off
 |none=>none
def asElem(agg:Bool)(cs:List AV):AV:=if agg then .agg cs else match cs with|v::_=>v| []=>undefA
def isTuple:AV->Bool| .tuple _=>true|_=>false
def isAggV:AV->Bool| .agg _=>true|_=>false
def Fr.write(F:Fr)(p:AV)(vs:List AV):Option Fr:=
 match p with
 | .lptr s g off=>match F.lm.get s with
  |some (g',cs)=>if g=g'/\off+vs.length <=cs.length then some { F with lm:=F.lm.set s (g,splice cs off vs) } else none
  |none=>none
 | .ptr id off=>match F.hp.get id with
  |some (.var cs)=>if off+vs.length <=cs.length then some { F with hp:=F.hp.put id (.var (splice cs off vs)) } else none
  |_=>none
 | .eptr id sz i j => match F.hp.get id with
  |some (.rw sz' el)=>if sz=sz' then (match el[i]? with
   |some v=>if j+vs.length <=v.cells.length then some { F with hp:=F.hp.put id (.rw sz' (el.set i (asElem (isAggV v) (splice v.cells j vs)))) } else none
   |none=>none)else none
  |_=>none
 |_=>none
def ptrAdd:AV->Nat->Option AV
 | .lptr s g off,n=>some (.lptr s g (off+n))
 | .ptr id off,n=>some (.ptr id (off+n))
 | .eptr id sz i j,n=>some (.eptr id sz i (j+n))
 | .vptr cs,n=>if n <=cs.length then some (.vptr (cs.drop n))else none
 |_,_=>none
def Heap.elems(h:Heap):AV->Option (List AV)
 | .nilslice| .vempty=>some []
 | .vslice l=>some l
 | .row id off len=>match h.get id with
  |some (.rw _ el)=>if off+len <=el.length then some ((el.drop off).take len)else none
  |_=>none
 |_=>none
def frzCells(h:Heap)(f:Heap->AV->Option (AV×Heap)):List AV->Option (List AV×Heap)
 | []=>some ([],h)
 | v :: r => match f h v with
  |some (v',h')=>(match frzCells h' f r with
   |some (l,h'')=>some (v'::l,h'')
   |none=>none)
  |none=>none
def frz1(h:Heap):AV->Option (AV×Heap)
 | .row id off len=>match h.get id with
  |some (.rw _ el)=>if off+len <=el.length then some (.vslice ((el.drop off).take len),h.del id)else none
  |_=>none
 |v=>some (v,h)
def frz2(h:Heap):AV->Option (AV×Heap)
 | .agg cs=>match frzCells h frz1 cs with|some (l,h')=>some (.agg l,h')|none=>none
 |v=>frz1 h v
def freeze(h:Heap):AV->Option (AV×Heap)
 | .tuple vs=>match frzCells h frz2 vs with|some (l,h')=>some (.tuple l,h')|none=>none
 |v=>frz2 h v
mutual
def AV.same:AV->AV->Bool
 | .junk,.junk=>true
 | .bool a,.bool b=>a==b
 | .int k a,.int l b=>k==l&&a==b
 | .str a,.str b=>a==b
 | .nilptr,.nilptr=>true
 | .ptr a b,.ptr c d=>a==c&&b==d
 | .eptr a b c d,.eptr a' b' c' d'=>a==a'&&b==b'&&c==c'&&d==d'
 | .lptr a b c,.lptr a' b' c'=>a==a'&&b==b'&&c==c'
 | .vptr a,.vptr b=>AV.sameL a b
 | .nilslice,.nilslice=>true
 | .vslice a,.vslice b=>AV.sameL a b
 | .vempty,.vempty=>true
 | .row a b c,.row a' b' c'=>a==a'&&b==b'&&c==c'
 | .nilmap,.nilmap=>true
 | .map a,.map b=>a==b
 | .func f a b,.func g c d=>f==g&&AV.sameL a c&&AV.sameL b d
 | .yield a,.yield b=>a==b
 | .nilfunc,.nilfunc=>true
 | .niliface,.niliface=>true
 | .iface t a,.iface u b=>t==u&&AV.same a b
 | .agg a,.agg b=>AV.sameL a b
 | .tuple a,.tuple b=>AV.sameL a b
 |_,_=>false
def AV.sameL:List AV->List AV->Bool
 | [],[]=>true
 |a::l,b::r=>AV.same a b&&AV.sameL l r
 |_,_=>false
end
def eqFields(f:TypeId->AV->AV->Option Bool)(P:Program)(xs ys:List AV):List Field->Option Bool
 | []=>some true
 | fd :: r => if fd.name = "_" then eqFields f P xs ys r else
  match readT P fd.type xs fd.offset,readT P fd.type ys fd.offset with
  |some a,some b=>(match f fd.type a b with
   |some true=>eqFields f P xs ys r
   |some false=>some false
   |none=>none)
  |_,_=>none
def eqElems(f:TypeId->AV->AV->Option Bool)(P:Program)(e:TypeId)(n:Nat)(xs ys:List AV):List Nat->Option Bool
 | []=>some true
 | i :: r => match readT P e xs (i * n), readT P e ys (i * n) with
  |some a,some b=>(match f e a b with
   |some true=>eqElems f P e n xs ys r
   |some false=>some false
   |none=>none)
  |_,_=>none
def eqT(P:Program):Nat->TypeId->AV->AV->Option Bool
 |0,_,_,_=>none
 | d + 1, t, x, y => match P.underlying t, x, y with
  |some .bool,.bool a,.bool b=>some (a==b)
  |some (.int _),.int k a,.int k' b=>if k=k' then some (a==b)else none
  |some .string,.str a,.str b=>some (a==b)
  |some (.struct fs),.agg xs,.agg ys=>if P.stoodInHeld t then none else eqFields (eqT P d) P xs ys fs.toList
  |some (.array n e),.agg xs,.agg ys=>(match lay P e with
   |some (_,k)=>eqElems (eqT P d) P e k xs ys (List.range n)
   |none=>none)
  |_,_,_=>none
def eqDepth:Nat:=8
def isIfaceT(P:Program)(t:TypeId):Bool:=match P.underlying t with|some (.interface _)=>true|_=>false
def isFuncT(P:Program)(t:TypeId):Bool:=match P.underlying t with|some (.func _ _ _)=>true|_=>false
def isSliceT(P:Program)(t:TypeId):Bool:=match P.underlying t with|some (.slice _)=>true|_=>false
def whenB(c:Bool)(b:Bool):Option Bool:=if c then some b else none
def eqV(P:Program)(t:TypeId)(c:Bool)(x y:AV):Option Bool:=
 match x,y with
 | .niliface,.niliface=>whenB (c&&isIfaceT P t) true
 | .niliface,.iface _ _=>whenB (isIfaceT P t) false
 | .iface _ _,.niliface=>whenB (isIfaceT P t) false
 | .nilfunc,.nilfunc=>whenB (isFuncT P t) true
 | .nilfunc,.func _ _ _=>whenB (isFuncT P t) false
 | .func _ _ _,.nilfunc=>whenB (isFuncT P t) false
 | .nilslice,.nilslice=>whenB (isSliceT P t) true
 | .nilslice,.vslice _=>whenB (isSliceT P t) false
 | .vslice _,.nilslice=>whenB (isSliceT P t) false
 | .nilslice,.vempty=>whenB (isSliceT P t) false
 | .vempty,.nilslice=>whenB (isSliceT P t) false
 | .nilslice,.row _ _ _=>whenB (isSliceT P t) false
 | .row _ _ _,.nilslice=>whenB (isSliceT P t) false
 | .agg a,.agg b=>if P.eqGuardType P.depth t then none else eqT P eqDepth t (.agg a) (.agg b)
 | .bool a,.bool b=>eqT P eqDepth t (.bool a) (.bool b)
 |_,_=>none
def bitsV(op:BinOp)(k:IntKind)(a b:Int):Option AV:=
 let x:=BitVec.ofInt k.bits a
 let y:=BitVec.ofInt k.bits b
 match op with
 | .and=>some (.int k (k.wrap (x &&& y).toNat))
 | .or=>some (.int k (k.wrap (x ||| y).toNat))
 | .xor=>some (.int k (k.wrap (x ^^^ y).toNat))
 | .andNot=>some (.int k (k.wrap (x &&& ~~~y).toNat))
 |_=>none
def intOp(op:BinOp)(k:IntKind)(a b:Int):Option AV:=
 match op with
 | .add=>some (.int k (k.wrap (a+b)))
 | .sub=>some (.int k (k.wrap (a - b)))
 | .mul=>some (.int k (k.wrap (a * b)))
 | .quo=>if b=0 then none else some (.int k (k.wrap (a.tdiv b)))
 | .rem=>if b=0 then none else some (.int k (a.tmod b))
 | .eql=>some (.bool (a==b))
 | .neq=>some (.bool (a !=b))
 | .lss=>some (.bool (decide (a<b)))
 | .leq=>some (.bool (decide (a <=b)))
 | .gtr=>some (.bool (decide (a>b)))
 | .geq=>some (.bool (decide (a >=b)))
 | .shl=>if b<0 then none else some (.int k (k.wrap (a * 2 ^ min b.toNat k.bits)))
 | .shr=>if b<0 then none else some (.int k (a.fdiv (2 ^ min b.toNat k.bits)))
 |op=>bitsV op k a b
def strOp(op:BinOp)(a b:List UInt8):Option AV:=
 match op with
 | .add=>if a.length+b.length <=4294967296 then some (.str (a++b))else none
 | .eql=>some (.bool (a==b))
 | .neq=>some (.bool !(a==b))
 | .lss=>some (.bool (Op.bytesLess a b))
 | .leq=>some (.bool (Op.bytesLess a b||a==b))
 | .gtr=>some (.bool !(Op.bytesLess a b||a==b))
 | .geq=>some (.bool !Op.bytesLess a b)
 |_=>none
def isShift:BinOp->Bool| .shl| .shr=>true|_=>false
def eqOp(P:Program)(op:BinOp)(t:TypeId)(c:Bool)(x y:AV):Option AV:=
 match op with
 | .eql=>(match eqV P t c x y with|some b=>some (.bool b)|none=>none)
 | .neq=>(match eqV P t c x y with|some b=>some (.bool !b)|none=>none)
 |_=>none
def binV(P:Program)(op:BinOp)(t:TypeId)(c:Bool)(x y:AV):Option AV:=
 match x,y with
 | .int k a,.int k' b=>if k=k'\/isShift op=true then intOp op k a b else none
 | .str a,.str b=>strOp op a b
 |x,y=>eqOp P op t c x y
def isConst:Operand->Bool| .const _=>true|_=>false
def unV(op:UnOp)(x:AV):Option AV:=
 match op,x with
 | .neg,.int k n=>some (.int k (k.wrap (-n)))
 | .xor,.int k n=>bitsV .xor k (if k.signed then -1 else k.max) n
 | .not,.bool b=>some (.bool (!b))
 |_,_=>none
def convV(P:Program)(src dst:TypeId)(x:AV):Option AV:=
 match P.underlying src,P.underlying dst,x with
 |some (.int _),some (.int k),.int _ n=>some (.int k (k.wrap n))
 |some .string,some .string,.str s=>some (.str s)
 |_,_,_=>none
def bytesOf:List AV->Option (List UInt8)
 | []=>some []
 | .int .u8 n::r=>(match bytesOf r with|some l=>some (UInt8.ofNat n.toNat::l)|none=>none)
 |_=>none
def isU8(P:Program)(e:TypeId):Bool:=match P.underlying e with|some (.int .u8)=>true|_=>false
def strV(P:Program)(hp:Heap)(src dst:TypeId)(x:AV):Option AV:=
 match P.underlying src,P.underlying dst with
 | some (.slice e), some .string => if isU8 P e then (match hp.elems x with
   |some l=>(match bytesOf l with|some s=>some (.str s)|none=>none)
   |none=>none)else none
 |_,_=>none
def fieldOf(P:Program)(t:TypeId)(f:Nat):Option (TypeId×Nat):=
 match P.underlying t with
 |some (.struct fs)=>(match fs[f]? with|some fd=>some (fd.type,fd.offset)|none=>none)
 |_=>none
def placeOf(P:Program)(t:TypeId)(i:Nat):Option (Nat×Nat):=
 match P.underlying t with
 |some (.struct fs)=>(match fs[i]? with|some fd=>some (fd.offset,szT P fd.type)|none=>none)
 |some (.array _ e)=>some (i * szT P e,szT P e)
 |_=>none
def partsKnown(P:Program)(t:TypeId):Bool:=
 match P.underlying t with
 |some (.struct fs)=>fs.toList.all fun fd=>(P.info? fd.type).isSome
 |some (.array _ e)=>(P.info? e).isSome
 |_=>false
def fillV(place:Nat->Option (Nat×Nat))(cells:List AV):List (Nat×AV)->Option (List AV)
 | []=>some cells
 |(i,v)::rest=>match place i with
  |none=>none
  |some (off,size)=>if v.cells.length=size/\off+size <=cells.length/\isTuple v=false then fillV place (splice cells off v.cells) rest else none
def fillE(cells:List AV)(size:Nat):List (Nat×AV)->Option (List AV)
 | []=>some cells
 |(i,v)::rest=>if v.cells.length=size/\i<cells.length/\isTuple v=false then fillE (cells.set i v) size rest else none
def Fr.parts(F:Fr):List (Nat×Operand)->Option (List (Nat×AV))
 | []=>some []
 |(i,x)::r=>match F.opv x,F.parts r with
  |some a,some l=>some ((i,a)::l)
  |_,_=>none
def idxV(i:AV)(n:Nat):Option Nat:=
 match i with
 | .int _ i=>if 0 <=i/\i<(n:Int)then some i.toNat else none
 |_=>none
def boundV(i:Option (Option AV))(dflt:Nat)(n:Nat):Option Nat:=
 match i with
 |none=>some dflt
 |some (some (.int _ i))=>if 0 <=i/\i <=(n:Int)then some i.toNat else none
 |_=>none
def boundsV(n:Nat)(lo hi mx:Option (Option AV)):Option (Nat×Nat×Bool):=
 match mx with
 |none=>(match boundV hi n n with
  |some h=>(match boundV lo 0 h with|some l=>some (l,h,false)|none=>none)
  |none=>none)
 | some m => (match boundV (some m) 0 n, hi with
  |some m,some hi=>(match boundV (some hi) 0 m with
   |some h=>(match boundV lo 0 h with|some l=>some (l,h,decide (l=m))|none=>none)
   |none=>none)
  |_,_=>none)
def headOk(m:Nat):List AV->Bool
 | []=>true
 |v::_=>v.cells.length==m
def cutV(hp:Heap)(m:Nat)(x:AV)(l h:Nat)(top:Bool):Option AV:=
 match x with
 | .nilslice=>some .nilslice
 | .vempty=>some .vempty
 | .vslice es=>if top then some .vempty else if headOk m es then some (.vslice ((es.take h).drop l))else none
 | .row id off _=>if top then some .vempty else (match hp.get id with
  |some (.rw sz _)=>if sz=m then some (.row id (off+l) (h - l))else none
  |_=>none)
 |_=>none
def lenS:AV->Option Nat
 | .nilslice=>some 0
 | .vempty=>some 0
 | .vslice l=>some l.length
 | .row _ _ len=>some len
 |_=>none
def strCut(s:List UInt8)(lo hi:Option (Option AV)):Option AV:=
 match boundsV s.length lo hi none with
 |some (l,h,_)=>some (.str ((s.take h).drop l))
 |none=>none
def sliceV(P:Program)(hp:Heap)(t:TypeId)(x:AV)(lo hi mx:Option (Option AV)):Option AV:=
 match P.underlying t with
 |some .string=>(match x,mx with
  | .str s,none=>strCut s lo hi
  |_,_=>none)
 | some (.slice e) => (match lay P e, lenS x with
  |some (_,m),some n=>(match boundsV n lo hi mx with
   |some (l,h,top)=>cutV hp m x l h top
   |none=>none)
  |_,_=>none)
 |_=>none
def indexAddrV (P : Program) (h : Heap) (t : TypeId) (x i : AV) : Option AV :=
 match P.underlying t with
 |some (.array n e)=>(match idxV i n,lay P e with|some k,some (_,m)=>ptrAdd x (k * m)|_,_=>none)
 | some (.slice e) => (match lay P e with
  | some (_, m) => (match x with
   | .vslice l=>(match idxV i l.length with
    |some k=>(match l[k]? with|some v=>if v.cells.length=m then some (.vptr v.cells)else none|none=>none)
    |none=>none)
   | .row id off len=>(match idxV i len,h.get id with
    |some k,some (.rw sz _)=>if sz=m then some (.eptr id sz (off+k) 0)else none
    |_,_=>none)
   |_=>none)
  |none=>none)
 |_=>none
def indexV(P:Program)(t:TypeId)(x i:AV):Option AV:=
 match P.underlying t,x with
 |some (.array n e),.agg cs=>(match idxV i n with|some k=>(match lay P e with|some (ag,m)=>readAt ag m cs (k * m)|none=>none)|none=>none)
 |some .string,.str s=>(match idxV i s.length with|some k=>(match s[k]? with|some b=>some (.int .u8 b.toNat)|none=>none)|none=>none)
 |_,_=>none
def findV(P:Program)(kt:TypeId)(x:AV):List (AV×AV)->Option (Option AV)
 | []=>some none
 |(k,v)::r=>match eqT P eqDepth kt x k with
  |some true=>some (some v)
  |some false=>findV P kt x r
  |none=>none
def scalarV:AV->Bool| .bool _| .int _ _| .str _=>true|_=>false
def keyV:AV->Bool
 | .agg cs=>cs.all scalarV
 |v=>scalarV v
def entriesV(h:Heap)(x:AV):Option (List (AV×AV)):=
 match x with
 | .nilmap=>some []
 | .map id=>(match h.get id with|some (.mp es)=>some es|_=>none)
 |_=>none
def keyOf(P:Program)(kt:TypeId)(k:AV):Bool:=keyV k&&(match eqT P eqDepth kt k k with|some true=>true|_=>false)
def lookupV (P : Program) (h : Heap) (t : TypeId) (x i : AV) (ok : Bool) : Option AV :=
 match P.underlying t with
 | some (.map kt et) => if keyOf P kt i then
   (match entriesV h x with
   |some es=>(match findV P kt i es with
    |some (some v)=>some (if ok then .tuple [v,.bool true]else v)
    |some none=>(match zeroT P et with|some z=>some (if ok then .tuple [z,.bool false]else z)|none=>none)
    |none=>none)
   |none=>none)else none
 |_=>none
def assertV(P:Program)(x:AV)(t:TypeId)(ok:Bool):Option AV:=
 match P.underlying t with
 |some (.interface _)|none=>none
 | _ => (match x with
  | .iface u v=>if u=t then some (if ok then .tuple [v,.bool true]else v)
   else if ok then (match zeroT P t with|some z=>some (.tuple [z,.bool false])|none=>none)else none
  | .niliface=>if ok then (match zeroT P t with|some z=>some (.tuple [z,.bool false])|none=>none)else none
  |_=>none)
def foldV(f:Int->Int->Int)(k:IntKind)(acc:Int):List AV->Option AV
 | []=>some (.int k acc)
 | .int _ n::r=>foldV f k (f acc n) r
 |_=>none
def minV(x y:Int):Int:=if y<x then y else x
def maxV(x y:Int):Int:=if y>x then y else x
def lenB(P:Program)(h:Heap)(t:TypeId)(x:AV):Option AV:=
 match P.underlying t with
 |some .string=>(match x with| .str s=>some (.int .i64 s.length)|_=>none)
 |some (.slice _)=>(match lenS x with|some n=>some (.int .i64 n)|none=>none)
 |some (.map _ _)=>(match entriesV h x with|some es=>some (.int .i64 es.length)|none=>none)
 |some (.array n _)=>some (.int .i64 n)
 |_=>none
def builtinV(P:Program)(h:Heap)(b:Builtin)(ts:List TypeId)(args:List AV):Option AV:=
 match b with
 | .len=>(match ts,args with|t::_,[x]=>lenB P h t x|_,_=>none)
 | .min=>(match args with| .int k x::r=>foldV minV k x r|_=>none)
 | .max=>(match args with| .int k x::r=>foldV maxV k x r|_=>none)
 |_=>none
def callEff(c:Call):Bool:=
 match c.callee with
 | .builtin .len| .builtin .min| .builtin .max=>false
 |_=>true
def isEff(op:Op):Bool:=
 match op with
 | .store _ _ _=>true
 | .makeMap _ _=>true
 | .makeSlice _ _ _=>true
 | .mapUpdate _ _ _ _=>true
 | .range _ _=>true
 | .next _ _=>true
 | .defer _=>true
 | .panic _=>true
 | .box _ _=>true
 | .call c=>callEff c
 |_=>false
def Fr.pickV(F:Fr)(c a b:Operand):Option AV:=
 match F.opv c,F.opv a,F.opv b with
 |some (.bool true),some a,some _=>some a
 |some (.bool false),some _,some b=>some b
 |_,_,_=>none
def Fr.allocV(F:Fr)(d:Option Tmp):Option AV:=
 match d with
 |some s=>(match F.lm.get s with|some (g,_)=>some (.lptr s g 0)|none=>none)
 |none=>none
def Fr.buildV(P:Program)(F:Fr)(t:TypeId)(ps:List (Nat×Operand)):Option AV:=
 if !partsKnown P t then none else
 match zeroT P t,F.parts ps with
 |some (.agg z),some l=>(match fillV (placeOf P t) z l with|some cs=>some (.agg cs)|none=>none)
 |_,_=>none
def sliceOf(P:Program)(e:TypeId)(n:Nat)(z:AV)(l:List (Nat×AV)):Option AV:=
 if n=0 then (match l with| []=>some .vempty|_=>none)else
 if z.cells.length=szT P e/\n * szT P e <=65536/\isTuple z=false/\szT P e≠0 then (match fillE (List.replicate n z) (szT P e) l with|some cs=>some (.vslice cs)|none=>none)else none
def Fr.buildSliceV(P:Program)(F:Fr)(t:TypeId)(n:Nat)(ps:List (Nat×Operand)):Option AV:=
 match elemT P t with
 |some e=>(match zeroT P e,F.parts ps with
  |some z,some l=>sliceOf P e n z l
  |_,_=>none)
 |none=>none
def Fr.loadV(P:Program)(F:Fr)(t:TypeId)(a:Operand):Option AV:=
 match F.opd a with
 |some p=>(match F.mem p with|some (cs,off)=>readT P t cs off|none=>none)
 |none=>none
def Fr.binV2(P:Program)(F:Fr)(op:BinOp)(t:TypeId)(x y:Operand):Option AV:=
 match F.opv x,F.opv y with
 |some a,some b=>binV P op t (isConst x||isConst y) a b
 |_,_=>none
def Fr.unV1(F:Fr)(op:UnOp)(x:Operand):Option AV:=match F.opv x with|some a=>unV op a|none=>none
def Fr.convV1(P:Program)(F:Fr)(s t:TypeId)(x:Operand):Option AV:=match F.opv x with|some a=>(match convV P s t a with|some v=>some v|none=>strV P F.hp s t a)|none=>none
def Fr.ifaceV(P:Program)(F:Fr)(t:TypeId)(x:Operand):Option AV:=
 match P.underlying t,F.opv x with
 |some (.interface _),_=>none
 |some _,some a=>some (.iface t a)
 |_,_=>none
def Fr.funcV(F:Fr)(fn:Fn)(first capt:List Operand):Option AV:=
 match fn,F.opvs first,F.opvs capt with
 | .func f,some a,some b=>some (.func (.func f) a b)
 |_,_,_=>none
def Fr.sliceV1(P:Program)(F:Fr)(t:TypeId)(x:Operand)(lo hi mx:Option Operand):Option AV:=
 match F.opv x with
 |some a=>sliceV P F.hp t a (lo.map F.opv) (hi.map F.opv) (mx.map F.opv)
 |none=>none
def Fr.fieldAddrV(P:Program)(F:Fr)(t:TypeId)(x:Operand)(f:Nat):Option AV:=
 match F.opd x,fieldOf P t f with
 |some p,some (ft,off)=>if szT P ft=0 then none else ptrAdd p off
 |_,_=>none
def Fr.fieldV(P:Program)(F:Fr)(t:TypeId)(x:Operand)(f:Nat):Option AV:=
 match F.opv x,fieldOf P t f with
 |some (.agg cs),some (ft,off)=>readT P ft cs off
 |_,_=>none
def Fr.indexAddrV1(P:Program)(F:Fr)(t:TypeId)(x i:Operand):Option AV:=
 match F.opd x,F.opv i with
 |some a,some b=>indexAddrV P F.hp t a b
 |_,_=>none
def Fr.indexV1(P:Program)(F:Fr)(t:TypeId)(x i:Operand):Option AV:=
 match F.opv x,F.opv i with
 |some a,some b=>indexV P t a b
 |_,_=>none
def Fr.lookupV1(P:Program)(F:Fr)(t:TypeId)(x i:Operand)(ok:Bool):Option AV:=
 match F.opv x,F.opv i with
 |some a,some b=>lookupV P F.hp t a b ok
 |_,_=>none
def Fr.nilCheckV(F:Fr)(x:Operand):Option AV:=
 match F.opd x with
 |some (.lptr s g o)=>some (.lptr s g o)
 |some (.ptr id o)=>some (.ptr id o)
 |some (.eptr id sz i j)=>some (.eptr id sz i j)
 |some (.vptr cs)=>some (.vptr cs)
 |some (.func (.func f) a b)=>some (.func (.func f) a b)
 |_=>none
def Fr.assertV1(P:Program)(F:Fr)(x:Operand)(t:TypeId)(ok:Bool):Option AV:=match F.opv x with|some a=>assertV P a t ok|none=>none
def Fr.extractV(F:Fr)(t:Operand)(i:Nat):Option AV:=match F.opv t with|some (.tuple vs)=>vs[i]? |_=>none
def Fr.builtinV1(P:Program)(F:Fr)(b:Builtin)(args:List Operand)(ts:List TypeId):Option AV:=
 match F.opvs args with
 |some l=>builtinV P F.hp b ts l
 |none=>none
def Fr.callRd(P:Program)(F:Fr)(c:Call):Option AV:=
 match c.callee with
 | .builtin b=>F.builtinV1 P b c.args.toList c.argTypes.toList
 |_=>none
def rdV(X:Ctx)(F:Fr)(d:Option Tmp)(op:Op):Option AV:=
 match op with
 | .move x=>F.opd x
 | .assign x=>F.opd x
 | .pick c a b=>F.pickV c a b
 | .alloc _=>F.allocV d
 | .build t ps=>F.buildV X.P t ps.toList
 | .buildSlice t n ps=>F.buildSliceV X.P t n ps.toList
 | .load t a=>F.loadV X.P t a
 | .binOp op t x y _=>F.binV2 X.P op t x y
 | .unOp op _ x=>F.unV1 op x
 | .convert s t x=>F.convV1 X.P s t x
 | .makeInterface t x=>F.ifaceV X.P t x
 | .makeFunc fn first capt=>F.funcV fn first.toList capt.toList
 | .slice t x lo hi mx=>F.sliceV1 X.P t x lo hi mx
 | .fieldAddr t x f=>F.fieldAddrV X.P t x f
 | .field t x f=>F.fieldV X.P t x f
 | .indexAddr t x i=>F.indexAddrV1 X.P t x i
 | .index t x i=>F.indexV1 X.P t x i
 | .lookup t x i ok=>F.lookupV1 X.P t x i ok
 | .nilCheck x=>F.nilCheckV x
 | .typeAssert x _ t ok=>F.assertV1 X.P x t ok
 | .extract t i=>F.extractV t i
 | .call c=>F.callRd X.P c
 |_=>none
def nextGen(lm:Mp (Nat×List AV))(s:Nat):Nat:=match lm.get s with|some (g,_)=>g+1|none=>0
def newBox(X:Ctx)(F:Fr)(d:Option Tmp)(v:AV):Option (AV×Fr):=
 match d with
 |none=>none
 |some s=>if isTuple v then none else if (X.hts F.f).contains s then some (.ptr F.hp.next 0,{ F with hp:=F.hp.new (.var v.cells) })else
  some (.lptr s (nextGen F.lm s) 0,{ F with lm:=F.lm.set s (nextGen F.lm s,v.cells) })
def most:Nat:=16777216
def rowable(P:Program)(e:TypeId):Bool:=
 szT P e !=0&&(match P.info? e with|some i=>decide (i.bytes <=65536)|none=>false)&&(match zeroT P e with|some z=>z.cells.length==szT P e&&!isTuple z|none=>false)
def appendV(P:Program)(F:Fr)(t:TypeId)(x:AV)(new:List AV):Option (AV×Fr):=
 match elemT P t with
 |none=>none
 | some e =>
  if !(new.all fun v=>v.cells.length==szT P e)||!rowable P e then none else
  if new.length=0 then (match x with| .nilslice| .vempty| .vslice _| .row _ _ _=>some (x,F)|_=>none)else
  match x with
  | .nilslice| .vempty=>if new.length <=most then some (.row F.hp.next 0 new.length,{ F with hp:=F.hp.new (.rw (szT P e) new) })else none
  | .row id off len=>(match F.hp.get id with
   | some (.rw sz el) => if sz = szT P e /\ off + len = el.length /\ len + new.length <= most then
     some (.row F.hp.next 0 (len+new.length),{ F with hp:=(F.hp.del id).new (.rw sz (el.drop off++new)) })else none
   |_=>none)
  |_=>none
def mapPut(P:Program)(kt:TypeId)(x v:AV):List (AV×AV)->Option (List (AV×AV))
 | []=>some [(x,v)]
 |(k,u)::r=>match eqT P eqDepth kt x k with
  |some true=>if AV.same k x then some ((x,v)::r)else none
  |some false=>(match mapPut P kt x v r with|some l=>some ((k,u)::l)|none=>none)
  |none=>none
def methodOf(P:Program)(t:TypeId)(name:String):Option FuncId:=
 match P.info? t,P.underlying t with
 |some _,some (.pointer _)=>none
 |some i,some _=>(match i.methods.find? (·.name==name)with
  |some m=>if m.path.isEmpty then (match m.func with|some (f,false)=>some f|_=>none)else none
  |none=>none)
 |_,_=>none
inductive OOut where
 |val (v:AV) (F:Fr)
 |pan (v:AV) (F:Fr)
 |fail
def callV(cl:FuncId->List AV->Heap->COut)(rd:Nat->List AV->Heap->COut)(fv:AV)(args:List AV)(h:Heap):COut:=
 match fv with
 | .func (.func f) first capt=>cl f ((first++args)++capt) h
 | .yield id=>rd id args h
 |_=>.fail
def outOf(F:Fr):COut->OOut
 | .ret v h _=>.val v { F with hp:=h }
 | .pan v h _=>.pan v { F with hp:=h }
 | .fail=>.fail
def okO(r:Option (AV×Fr)):OOut:=match r with|some (v,F)=>.val v F|none=>.fail
def Fr.allocE(X:Ctx)(F:Fr)(d:Option Tmp)(t:TypeId):OOut:=
 match zeroT X.P t with
 |some z=>okO (newBox X F d z)
 |none=>.fail
def Fr.boxE(X:Ctx)(F:Fr)(d:Option Tmp)(x:Operand):OOut:=
 match F.opv x with
 |some a=>okO (newBox X F d a)
 |none=>.fail
def Fr.storeE(P:Program)(F:Fr)(t:TypeId)(a x:Operand):OOut:=
 match F.opd a,F.opv x with
 |some p,some v=>(match lay P t with
  |some (_,n)=>if v.cells.length=n/\isTuple v=false then (match F.write p v.cells with|some F'=>.val undefA F' |none=>.fail)else .fail
  |none=>.fail)
 |_,_=>.fail
def Fr.rowE(P:Program)(F:Fr)(t:TypeId)(n:Nat)(ps:List (Nat×Operand)):OOut:=
 match elemT P t,F.buildSliceV P t n ps with
 |some e,some (.vslice l)=>.val (.row F.hp.next 0 l.length) { F with hp:=F.hp.new (.rw (szT P e) l) }
 |_,_=>.fail
def Fr.mapE(F:Fr)(r:Option Operand):OOut:=
 match r with
 |none=>.val (.map F.hp.next) { F with hp:=F.hp.new (.mp []) }
 |some _=>.fail
def Fr.makeSliceE (P : Program) (F : Fr) (t : TypeId) (l c : Operand) : OOut :=
 match elemT P t,F.opv l,F.opv c with
 |some e,some (.int _ n),some (.int _ m)=>(match zeroT P e,P.info? e with
  | some z, some i => if 0 <= n /\ n <= m /\ m <= most /\ i.bytes <= 65536 /\ z.cells.length = szT P e /\ isTuple z = false /\ szT P e ≠ 0 then
    .val (.row F.hp.next 0 n.toNat) { F with hp:=F.hp.new (.rw (szT P e) (List.replicate n.toNat z)) } else .fail
  |_,_=>.fail)
 |_,_,_=>.fail
def Fr.bytesE(P:Program)(F:Fr)(s t:TypeId)(x:Operand):OOut:=
 match P.underlying s,P.underlying t,F.opv x with
 |some .string,some (.slice e),some (.str l)=>if isU8 P e=true/\l≠[]then .val (.row F.hp.next 0 l.length) { F with hp:=F.hp.new (.rw 1 (l.map fun b=>.int .u8 b.toNat)) } else .fail
 |_,_,_=>.fail
def Fr.mapUpdateE(P:Program)(F:Fr)(t:TypeId)(m k v:Operand):OOut:=
 match P.underlying t,F.opv m,F.opv k,F.opv v with
 | some (.map kt _), some (.map id), some k, some v => if keyOf P kt k then
   (match F.hp.get id with
   |some (.mp es)=>(match mapPut P kt k v es with|some es'=>.val undefA { F with hp:=F.hp.put id (.mp es') } |none=>.fail)
   |_=>.fail)else .fail
 |_,_,_,_=>.fail
def Fr.rangeE(P:Program)(F:Fr)(t:TypeId)(x:Operand):OOut:=
 match P.underlying t,F.opv x with
 |some .string,some (.str s)=>.val (.ptr F.hp.next 0) { F with hp:=F.hp.new (.iter s 0) }
 |_,_=>.fail
def Fr.nextE (F : Fr) (it : Operand) (isString : Bool) : OOut :=
 match isString,F.opv it with
 |true,some (.ptr id 0)=>(match F.hp.get id with
  | some (.iter s pos) => if pos < s.length then
    (let r:=Utf8.decode ⟨s.toArray⟩ pos
    .val (.tuple [.bool true,.int .i64 pos,.int .i32 r.1]) { F with hp:=F.hp.put id (.iter s (pos+r.2)) })
    else .val (.tuple [.bool false]) F
  |_=>.fail)
 |_,_=>.fail
def Fr.deferE(F:Fr)(c:Call):OOut:=
 match c.callee,F.rnd with
 | .value f,false=>(match F.opv f,F.opvs c.args.toList with
  |some (.func (.func g) first capt),some l=>.val undefA { F with df:=(.func (.func g) first capt,l)::F.df }
  |_,_=>.fail)
 |_,_=>.fail
def Fr.panicE(F:Fr)(x:Operand):OOut:=
 match F.opv x with
 |some (.iface t v)=>.pan (.iface t v) F
 |_=>.fail
def Fr.callE(cl:FuncId->List AV->Heap->COut)(rd:Nat->List AV->Heap->COut)(F:Fr)(f:Operand)(args:List Operand):OOut:=
 match F.opv f,F.opvs args with
 |some fv,some l=>outOf F (callV cl rd fv l F.hp)
 |_,_=>.fail
def Fr.invokeE(P:Program)(cl:FuncId->List AV->Heap->COut)(F:Fr)(x:Operand)(name:String)(args:List Operand):OOut:=
 match F.opv x,F.opvs args with
 |some (.iface t v),some l=>(match methodOf P t name with
  |some f=>outOf F (cl f (v::l) F.hp)
  |none=>.fail)
 |_,_=>.fail
def zerosA(P:Program)(t:TypeId)(y:AV):Option (List AV):=
 match elemT P t,y with
 |some e,.int _ n=>(match zeroT P e with
  |some z=>if 0 <=n/\n <=most/\isTuple z=false then some (List.replicate n.toNat z)else none
  |none=>none)
 |_,_=>none
def Fr.appendE(P:Program)(F:Fr)(ts:List TypeId)(args:List Operand):OOut:=
 match ts,F.opvs args with
 | t :: u :: _, some [x, y] => (match P.underlying u with
  |some .string=>(match y with
   | .str s=>okO (appendV P F t x (s.map fun b=>.int .u8 b.toNat))
   |_=>.fail)
  |some (.slice _)=>(match y with
   | .str _=>.fail
   |y=>(match F.hp.elems y with|some new=>okO (appendV P F t x new)|none=>.fail))
  |some (.int _)=>(match zerosA P t y with|some new=>okO (appendV P F t x new)|none=>.fail)
  |_=>.fail)
 |_,_=>.fail
def Fr.recoverE(F:Fr):OOut:=
 if F.rnd then .fail else
 match F.up with
 |some (v,false)=>.val v { F with up:=some (v,true) }
 |_=>.val .niliface F
def Fr.builtinE(P:Program)(F:Fr)(b:Builtin)(args:List Operand)(ts:List TypeId):OOut:=
 match b with
 | .append=>F.appendE P ts args
 | .panic=>(match args with| [x]=>F.panicE x|_=>.fail)
 | .recover=>(match args with| []=>F.recoverE|_=>.fail)
 |_=>.fail
def Fr.callOp(X:Ctx)(cl:FuncId->List AV->Heap->COut)(rd:Nat->List AV->Heap->COut)(F:Fr)(c:Call):OOut:=
 match c.callee with
 | .value f=>F.callE cl rd f c.args.toList
 | .invoke x name=>F.invokeE X.P cl x name c.args.toList
 | .builtin b=>F.builtinE X.P b c.args.toList c.argTypes.toList
def efV(X:Ctx)(cl:FuncId->List AV->Heap->COut)(rd:Nat->List AV->Heap->COut)(F:Fr)(d:Option Tmp)(op:Op):OOut:=
 match op with
 | .alloc t=>F.allocE X d t
 | .box _ x=>F.boxE X d x
 | .store t a x=>F.storeE X.P t a x
 | .buildSlice t n ps=>F.rowE X.P t n ps.toList
 | .makeMap _ r=>F.mapE r
 | .makeSlice t l c=>F.makeSliceE X.P t l c
 | .mapUpdate t m k v=>F.mapUpdateE X.P t m k v
 | .convert s t x=>F.bytesE X.P s t x
 | .range t x=>F.rangeE X.P t x
 | .next it s=>F.nextE it s
 | .defer c=>F.deferE c
 | .panic x=>F.panicE x
 | .call c=>F.callOp X cl rd c
 |_=>.fail
def yieldedA(ops:Array Oper)(F:Fr)(j:Nat):Option Bool:=
 match ops[j]? with
 |some o=>(match o.dst with
  |some t=>(match F.e.get t with|some (.bool b)=>some b|_=>none)
  |none=>none)
 |none=>none
def wantedA(ops:Array Oper)(F:Fr)(o:Oper):Bool:=
 match o.guard with
 |none=>true
 |some (j,want)=>yieldedA ops F j==some want
def guardOk(ops:Array Oper)(F:Fr)(o:Oper):Bool:=
 match o.guard with
 |none=>true
 | some (j, _) => (match ops[j]? with
  |some o=>(match o.dst with
   |some t=>(match F.e.get t with|some .junk=>false|_=>true)
   |none=>true)
  |none=>true)
def isEffAt(X:Ctx)(f:FuncId)(o:Oper):Bool:=
 match o.op with
 | .alloc _=>true
 | .buildSlice _ _ _=>(match o.dst with|some d=>(X.rws f).contains d|none=>false)
 | .convert _ _ _=>(match o.dst with|some d=>(X.rws f).contains d|none=>false)
 |op=>isEff op
def stepOp(X:Ctx)(cl:FuncId->List AV->Heap->COut)(rd:Nat->List AV->Heap->COut)(ops:Array Oper)(o:Oper)(F:Fr):OOut:=
 if !guardOk ops F o then .fail else
 if wantedA ops F o then
  (if isEffAt X F.f o then (match efV X cl rd F o.dst o.op with
   | .val v F'=>.val v (F'.put o.dst v)
   |r=>r)
  else (match rdV X F o.dst o.op with
   |some v=>.val v (F.put o.dst v)
   |none=>.fail))
 else .val undefA (F.put o.dst undefA)
def runOps(X:Ctx)(cl:FuncId->List AV->Heap->COut)(rd:Nat->List AV->Heap->COut)(ops:Array Oper):List Oper->Fr->Out
 | [],F=>.norm F
 |o::r,F=>match stepOp X cl rd ops o F with
  | .val _ F'=>runOps X cl rd ops r F'
  | .pan v F'=>.pan v F'
  | .fail=>.fail
def looksAt(ops:Array Oper)(o:Oper):List Tmp:=
  (o.op.operands.toList.filterMap fun| .tmp t=>some t|_=>none)++
  (match o.guard with
   |some (g,_)=>(match ops[g]? with|some p=>p.dst.toList|none=>[])
   |none=>[])
def apartT(ops:Array Oper)(x y:Oper):Bool:=
  (match x.dst with
   |some d=>!(looksAt ops y).contains d&&y.dst !=some d
   |none=>true)&&
  (match y.dst with
   |some d=>!(looksAt ops x).contains d
   |none=>true)
def isAlloc(o:Oper):Bool:=match o.op with| .alloc _=>true|_=>false
def isEffD(X:Ctx)(f:FuncId)(o:Oper):Bool:=!isAlloc o&&isEffAt X f o
def canon(ops:Array Oper):List Nat:=
 (List.range ops.size).filter (fun i=>match ops[i]? with|some o=>isAlloc o|none=>false)++
 (List.range ops.size).filter (fun i=>match ops[i]? with|some o=>!isAlloc o|none=>false)
def waits(ops:Array Oper)(j i:Nat):Bool:=((Region.before ops).getD j 0).testBit i
def loosePairs(w:Nat->Nat->Bool):List Nat->List (Nat×Nat)
 | []=>[]
 |i::r=>(r.filter fun j=>!w j i).map (fun j=>(i,j))++loosePairs w r
def shapeOk (X : Ctx) (f : FuncId) (ops : Array Oper) : Bool :=
 (List.range ops.size).all fun i=>match ops[i]? with
  | some o => o.after.all (fun e => decide (e.on < i) || !Region.binds .any e) &&
    (match o.op with
     | .alloc _=>o.guard.isNone&&o.after.isEmpty&&(match o.dst with|some d=>!(X.hts f).contains d|none=>false)
     | .box .. | .defer _=>false
     |_=>true)
  |none=>false
def pairOk(X:Ctx)(f:FuncId)(ops:Array Oper)(p:Nat×Nat):Bool:=
 match ops[p.1]?,ops[p.2]? with
 |some x,some y=>apartT ops x y&&!(isEffD X f x&&isEffD X f y)
 |_,_=>false
def mayRead(o:Oper):Bool:=
 match o.op with
 | .load _ _=>true
 | .lookup _ _ _ _=>true
 | .indexAddr _ _ _=>true
 | .slice _ _ _ _ _=>true
 | .convert _ _ _=>true
 | .call _=>true
 |_=>false
def hotPair(X:Ctx)(f:FuncId)(ops:Array Oper)(p:Nat×Nat):Bool:=
 match ops[p.1]?,ops[p.2]? with
 |some x,some y=>isEffD X f x&&mayRead y||mayRead x&&isEffD X f y
 |_,_=>false
def drawOk(X:Ctx)(f:FuncId)(ops:Array Oper):Bool:=
 shapeOk X f ops&&(loosePairs (waits ops) (canon ops)).all (pairOk X f ops)
def hotPairs(X:Ctx)(f:FuncId)(ops:Array Oper):List (Nat×Nat):=(loosePairs (waits ops) (canon ops)).filter (hotPair X f ops)
def prepAll(X:Ctx):List Oper->Fr->Option Fr
 | [],F=>some F
 | o :: r, F => match o.op, o.dst with
  | .alloc t,some s=>(match zeroT X.P t with
   |some z=>if isTuple z then none else prepAll X r { F with lm:=F.lm.set s (nextGen F.lm s,z.cells) }
   |none=>none)
  | .alloc _,none=>none
  |_,_=>prepAll X r F
def stepD(X:Ctx)(cl:FuncId->List AV->Heap->COut)(rd:Nat->List AV->Heap->COut)(ops:Array Oper)(o:Oper)(F:Fr):OOut:=
 if isAlloc o then (match rdV X F o.dst o.op with
  |some v=>.val v (F.put o.dst v)
  |none=>.fail)else stepOp X cl rd ops o F
structure Trace where
 before:Fr
 val:AV
 after:Fr
inductive DOut where
 |norm (F:Fr) (ts:List (Nat×Trace))
 |pan (i:Nat) (v:AV) (F:Fr) (ts:List (Nat×Trace))
 |fail
def runD (X : Ctx) (cl : FuncId -> List AV -> Heap -> COut) (rd : Nat -> List AV -> Heap -> COut) (ops : Array Oper) : List Nat -> Fr -> DOut
 | [],F=>.norm F []
 | i :: r, F => match ops[i]? with
  |none=>.fail
  | some o => (match stepD X cl rd ops o F with
   | .val v F'=>(match runD X cl rd ops r F' with
    | .norm F'' ts=>.norm F'' ((i,⟨F,v,F'⟩)::ts)
    | .pan j u F'' ts=>.pan j u F'' ((i,⟨F,v,F'⟩)::ts)
    | .fail=>.fail)
   | .pan v F'=>.pan i v F' []
   | .fail=>.fail)
def traceOf(ts:List (Nat×Trace))(i:Nat):Option Trace:=
 match ts with
 | []=>none
 |(j,t)::r=>if i=j then some t else traceOf r i
def rereads(X:Ctx)(ops:Array Oper)(o:Oper)(t:Trace)(M:Fr):Bool:=
 if wantedA ops t.before o then
  (match rdV X { t.before with lm:=M.lm,hp:=M.hp } o.dst o.op with|some v=>AV.same v t.val|none=>false)
 else true
def calmPair(X:Ctx)(f:FuncId)(ops:Array Oper)(ts:List (Nat×Trace))(p:Nat×Nat):Bool:=
 match ops[p.1]?,ops[p.2]?,traceOf ts p.1,traceOf ts p.2 with
 |some x,some y,some t,some u=>if isEffD X f x then rereads X ops y u t.before else rereads X ops x t u.after
 |_,_,_,_=>true
def junkAll:List Oper->Fr->Fr
 | [],F=>F
 |o::r,F=>junkAll r (F.put o.dst .junk)
def drawOkF(X:Ctx)(f:FuncId)(ops:Array Oper):Bool:=match f with| 0=>drawOk X 0 ops|m+1=>drawOk X (m+1) ops
def hotPairsF(X:Ctx)(f:FuncId)(ops:Array Oper):List (Nat×Nat):=match f with| 0=>hotPairs X 0 ops|m+1=>hotPairs X (m+1) ops
theorem drawOkF_eq(X:Ctx)(f:FuncId)(ops:Array Oper):drawOkF X f ops=drawOk X f ops:=by cases f<;>rfl
theorem hotPairsF_eq(X:Ctx)(f:FuncId)(ops:Array Oper):hotPairsF X f ops=hotPairs X f ops:=by cases f<;>rfl
def runDraw(X:Ctx)(cl:FuncId->List AV->Heap->COut)(rd:Nat->List AV->Heap->COut)(ops:Array Oper)(F:Fr):Out:=
 if !drawOkF X F.f ops then .fail else
 match prepAll X ops.toList F with
 |none=>.fail
 |some F0=>(match runD X cl rd ops (canon ops) F0 with
  | .norm F' ts=>if (hotPairsF X F.f ops).all (calmPair X F.f ops ts)then .norm F' else .fail
  | .pan i v F' ts=>if (hotPairsF X F.f ops).all (calmPair X F.f ops ts)&&(canon ops).all (fun j=>j==i||waits ops j i||(traceOf ts j).isSome)then .pan v (junkAll ops.toList F')else .fail
  | .fail=>.fail)
def lowX(X:Ctx)(ops:Array Oper):Ctx:={ X with hts:=fun f=>(X.hts f).filter fun s=>!(ops.toList.any fun o=>isAlloc o&&o.dst==some s) }
def hotSlots(X:Ctx)(f:FuncId)(ops:Array Oper):List Tmp:=(X.hts f).filter fun s=>ops.toList.any fun o=>isAlloc o&&o.dst==some s
def promote1(F:Fr)(s:Tmp):Option Fr:=match F.e.get s,F.lm.get s with
 |some (.lptr s' g 0),some (g',cells)=>if s'=s/\g=g' then some { F with e:=F.e.set s (.ptr F.hp.next 0),lm:=F.lm.set s (g'+1,cells),hp:=F.hp.new (.var cells) } else none
 |_,_=>none
def promoteAll:List Tmp->Fr->Option Fr
 | [],F=>some F
 |s::r,F=>match promote1 F s with
  |some F'=>promoteAll r F'
  |none=>none
def runDrawP(X:Ctx)(cl:FuncId->List AV->Heap->COut)(rd:Nat->List AV->Heap->COut)(ops:Array Oper)(F:Fr):Out:=
 if drawOkF X F.f ops=true then runDraw X cl rd ops F else
 match runDraw (lowX X ops) cl rd ops F with
 | .norm F'=>(match promoteAll (hotSlots X F.f ops) F' with
  |some F''=>.norm F''
  |none=>.fail)
 |o=>o
theorem runDraw_eq(X:Ctx)(cl:FuncId->List AV->Heap->COut)(rd:Nat->List AV->Heap->COut)(ops:Array Oper)(F:Fr):runDraw X cl rd ops F =
 (if !drawOk X F.f ops then .fail else
 match prepAll X ops.toList F with
 |none=>.fail
 |some F0=>(match runD X cl rd ops (canon ops) F0 with
  | .norm F' ts=>if (hotPairs X F.f ops).all (calmPair X F.f ops ts)then .norm F' else .fail
  | .pan i v F' ts=>if (hotPairs X F.f ops).all (calmPair X F.f ops ts)&&(canon ops).all (fun j=>j==i||waits ops j i||(traceOf ts j).isSome)then .pan v (junkAll ops.toList F')else .fail
  | .fail=>.fail)):=by
 unfold runDraw;rw[drawOkF_eq,hotPairsF_eq]
theorem runDrawP_ok{X:Ctx}{cl:FuncId->List AV->Heap->COut}{rd:Nat->List AV->Heap->COut}{ops:Array Oper}{F:Fr}(h:drawOk X F.f ops=true):runDrawP X cl rd ops F=runDraw X cl rd ops F:=by
 unfold runDrawP;rw[drawOkF_eq,if_pos h]
def setParams:List Tmp->List AV->Mp AV->Option (Mp AV)
 | [],[],e=>some e
 |t::ts,v::vs,e=>setParams ts vs (e.set t v)
 |_,_,_=>none
def endV(id:Nat)(F:Fr)(st:LoopState)(pend:Option Code)(v:Bool):COut:=
 match F.hp.get id with
 |some (.loop f e params assign body _ _)=>.ret (.bool v) (F.hp.put id (.loop f e params assign body st pend)) none
 |_=>.fail
def roundEnd(P:Program)(id:Nat):Out->COut
 | .norm F=>endV id F .ready none true
 | .exit i F=>endV id F .done (some (.exit i)) false
 | .ret F=>endV id F .done (some .ret) false
 | .pan v F=>if F.df.isEmpty&&(P.funcs[F.f]?).isSome then .pan v F.hp none else .fail
 | .fail=>.fail
def roundV (X : Ctx) (ev : Code -> Fr -> Out) (id : Nat) (args : List AV) (h : Heap) : COut :=
 match h.get id with
 | some (.loop f e params assign body .ready _) => (match setParams params args e with
  |none=>.fail
  | some e' => (match ev assign { f, rnd := true, e := e', lm := .nil, hp := h, df := [], up := none } with
   | .norm F1=>(match F1.hp.get id with
    |some (.loop f1 e1 params1 assign1 body1 .ready p)=>roundEnd X.P id (ev body { F1 with hp:=F1.hp.put id (.loop f1 e1 params1 assign1 body1 .busy p) })
    |_=>.fail)
   |_=>.fail))
 |_=>.fail
def entryEnv(args:List AV):Nat->Mp AV->Mp AV:=
 match args with
 | []=>fun _ e=>e
 |v::r=>fun i e=>entryEnv r (i+1) (e.set i v)
def resultV(P:Program)(F:Fr):ResultVar->Option AV
 | .tmp t=>F.opv (.tmp t)
 | .cell a t=>(match F.mem (F.tmp a)with|some (cs,off)=>readT P t cs off|none=>none)
def resultsV(P:Program)(F:Fr):List ResultVar->Option (List AV)
 | []=>some []
 |r::rs=>match resultV P F r,resultsV P F rs with
  |some v,some l=>some (v::l)
  |_,_=>none
def dstsLt(nt:Nat)(ops:List Oper):Bool:=ops.all fun o=>match o.dst with|some d=>Nat.blt d nt|none=>true
def codeOk(nt:Nat):Code->Bool
 | .region _ ops _=>dstsLt nt ops.toList
 | .seq a b=>codeOk nt a&&codeOk nt b
 | .cond _ a b=>codeOk nt a&&codeOk nt b
 | .block _ b=>codeOk nt b
 | .loop b=>codeOk nt b
 | .scope b=>codeOk nt b
 | .rangeFunc _ ps a b=>(ps.toList.all fun p=>Nat.blt p nt)&&(codeOk nt a&&codeOk nt b)
 |_=>true
def bodyV(X:Ctx)(ev:Code->Fr->Out)(f:FuncId)(args:List AV)(h:Heap)(up:Option (AV×Bool)):Out:=
 match X.P.funcs[f]? with
 |none=>.fail
 |some fn=>(match fn.body with
  |none=>.fail
  |some c=>if fn.ntmps<args.length\/codeOk fn.ntmps c=false then .fail else ev c { f,rnd:=false,e:=entryEnv args 0 .nil,lm:=.nil,hp:=h,df:=[],up })
def dbodyV(X:Ctx)(ev:Code->Fr->Out)(g:FuncId)(args:List AV)(h:Heap)(up:Option (AV×Bool)):Out:=
 match X.P.funcs[g]? with
 |some fn=>if fn.results.isEmpty then bodyV X ev g args h up else .fail
 |none=>.fail
def stillUp:Option (AV×Bool)->Option AV
 |some (v,false)=>some v
 |_=>none
def deferV(X:Ctx)(ev:Code->Fr->Out):List (AV×List AV)->Heap->Option AV->Option (Heap×Option AV)
 | [],h,st=>some (h,st)
 |(.func (.func g) first capt,args)::r,h,st=>
  (match dbodyV X ev g ((first++args)++capt) h (st.map fun v=>(v,false))with
  | .norm F=>if F.df.isEmpty then deferV X ev r F.hp (stillUp F.up)else none
  | .ret F=>if F.df.isEmpty then deferV X ev r F.hp (stillUp F.up)else none
  |_=>none)
 |_,_,_=>none
def tupleOf:List AV->AV
 | [v]=>v
 |l=>.tuple l
def frzRes(X:Ctx)(f:FuncId)(h:Heap)(v:AV):COut:=
 if X.frz f then (match freeze h v with|some (v',h')=>.ret v' h' none|none=>.fail)else .ret v h none
def resV(X:Ctx)(f:FuncId)(F:Fr):COut:=
 match X.P.funcs[f]? with
 |none=>.fail
 |some fn=>(match resultsV X.P F fn.results.toList with
  |none=>.fail
  |some l=>frzRes X f F.hp (tupleOf l))
def finV(X:Ctx)(ev:Code->Fr->Out)(f:FuncId)(F:Fr)(st:Option AV):COut:=
 match deferV X ev F.df F.hp st with
 |none=>.fail
 |some (h',some v)=>.pan v h' none
 |some (h',none)=>resV X f { F with hp:=h',df:=[] }
def atOnceF(X:Ctx)(f:FuncId)(args:List AV)(h:Heap):Option (AV×Heap):=
 match X.intr f with
 |some g=>g args h
 |none=>none
def callF(X:Ctx)(ev:Code->Fr->Out)(f:FuncId)(args:List AV)(h:Heap):COut:=
 match atOnceF X f args h with
 |some (v,h')=>.ret v h' none
 |none=>(match bodyV X ev f args h none with
  | .norm F=>finV X ev f F none
  | .ret F=>finV X ev f F none
  | .pan v F=>finV X ev f F (some v)
  |_=>.fail)
def evStep (X : Ctx) (ev : Code -> Fr -> Out) (c : Code) (F : Fr) : Out :=
 match c with
 | .skip| .label _=>.norm F
 | .seq a b=>(match ev a F with| .norm F'=>ev b F' |o=>o)
 | .cond c a b=>(match F.opd c with|some (.bool true)=>ev a F|some (.bool false)=>ev b F|_=>.fail)
 | .block id b=>(match ev b F with| .exit i F'=>if i=id then .norm F' else .exit i F' |o=>o)
 | .loop body=>(match ev body F with| .norm F'=>ev (.loop body) F' |o=>o)
 | .scope b=>ev b F
 | .exit id=>.exit id F
 | .ret=>.ret F
 | .region _ ops draw=>if draw then runDrawP X (callF X ev) (roundV X ev) ops F else runOps X (callF X ev) (roundV X ev) ops ops.toList F
 | .rangeFunc g params assign body => (if F.rnd then .fail else match F.opv g with
  | some (.func (.func fid) first capt) =>
   let id:=F.hp.next
   (match callF X ev fid ((first++[.yield id])++capt) (F.hp.new (.loop F.f (F.e.map noBox) params.toList assign body .ready none))with
   | .ret _ h _ => (match h.get id with
    |some (.loop f e ps a b st pend)=>if st= .busy then .fail else
     (let F':={ F with hp:=h.put id (.loop f e ps a b .exhausted pend) }
     match pend with
     |none=>.norm F'
     |some .ret=>.ret F'
     |some (.exit i)=>.exit i F'
     |_=>.fail)
    |_=>.fail)
   |_=>.fail)
  |_=>.fail)
 |_=>.fail
def ev(X:Ctx):Nat->Code->Fr->Out
 |0=>fun _ _=>.fail
 |n+1=>evStep X (ev X n)
end Go.AM
set_option linter.unusedSimpArgs false
namespace Go.AM
open Go
variable{α:Type}
theorem beq00:Nat.beq 0 0=true:=rfl
theorem beq10:Nat.beq 1 0=false:=rfl
@[simp] theorem Mp.get_nil (j:Nat):(Mp.nil:Mp α).get j=none:=by cases j<;>rfl
theorem Mp.get_upd:∀(n:Nat) (t:Mp α) (k:Nat) (x:Option α) (j:Nat),k<n->(Mp.upd n t k x).get j=if k=j then x else t.get j:=by
 intro n;induction n with
 |zero=>intro t k x j h;omega
 | succ n ih =>
  intro t k x j h;cases k with
  |zero=>cases t<;>cases j<;>simp[Mp.upd,Mp.get]
  | succ k =>
   have hk:k / 2<n:=by omega
   cases j with
   |zero=>rcases Nat.mod_two_eq_zero_or_one k with hm|hm<;>cases t<;>simp[Mp.upd,Mp.get,hm,beq00,beq10]
   | succ j =>
    rcases Nat.mod_two_eq_zero_or_one k with hm|hm<;>rcases Nat.mod_two_eq_zero_or_one j with hj|hj
    ·have e:(k / 2=j / 2)↔(k+1=j+1):=by omega
     cases t<;>simp[Mp.upd,Mp.get,hm,hj,beq00,ih _ _ _ _ hk,e]
    ·have e:¬(k+1=j+1):=by omega
     cases t<;>simp[Mp.upd,Mp.get,hm,hj,beq00,beq10,e];all_goals (intro;omega)
    ·have e:¬(k+1=j+1):=by omega
     cases t<;>simp[Mp.upd,Mp.get,hm,hj,beq00,beq10,e];all_goals (intro;omega)
    ·have e:(k / 2=j / 2)↔(k+1=j+1):=by omega
     cases t<;>simp[Mp.upd,Mp.get,hm,hj,beq10,ih _ _ _ _ hk,e]
@[simp] theorem Mp.get_set (t:Mp α) (k:Nat) (x:α) (j:Nat):(t.set k x).get j=if k=j then some x else t.get j:=Mp.get_upd _ _ _ _ _ (Nat.lt_succ_self k)
@[simp] theorem Mp.get_del (t:Mp α) (k j:Nat):(t.del k).get j=if k=j then none else t.get j:=Mp.get_upd _ _ _ _ _ (Nat.lt_succ_self k)
theorem Mp.get_map(f:α->α)(t:Mp α):∀j,(t.map f).get j=(t.get j).map f:=by
 induction t with
 |nil=>intro j;cases j<;>rfl
 |node v l r ihl ihr=>
  intro j;cases j with
  |zero=>cases v<;>rfl
  |succ k=>rcases Nat.mod_two_eq_zero_or_one k with hm|hm<;>simp[Mp.map,Mp.get,hm,ihl,ihr,beq00,beq10]
structure Loc where
 b:Nat
 o:Nat
 sz:Nat
 tot:Nat
structure Cfg where
 mu:Nat->Option Loc
 sig:Addr->Option Value
structure Cfg.le(C D:Cfg):Prop where
 mu:∀id L,C.mu id=some L->D.mu id=some L
 sig:∀a v,C.sig a=some v->D.sig a=some v
theorem Cfg.le.refl(C:Cfg):C.le C:=⟨fun _ _ h=>h,fun _ _ h=>h⟩
theorem Cfg.le.trans{C D E:Cfg}(h:C.le D)(k:D.le E):C.le E:=⟨fun _ _ e=>k.mu _ _ (h.mu _ _ e),fun _ _ e=>k.sig _ _ (h.sig _ _ e)⟩
def AV.one:AV->Bool
 | .agg _| .tuple _| .junk| .lptr _ _ _=>false
 |_=>true
inductive VR(C:Cfg):AV->Value->Prop
 |bool (b:Bool):VR C (.bool b) (.bool b)
 |int (k:IntKind) (n:Int):VR C (.int k n) (.int k n)
 |str (s:List UInt8):VR C (.str s) (.string ⟨⟨s⟩⟩)
 |nilptr:VR C .nilptr (.pointer none)
 |ptr {id off:Nat} {L:Loc}:C.mu id=some L->VR C (.ptr id off) (.pointer (some ⟨L.b,L.o+off,none⟩))
 |eptr {id sz i j:Nat} {L:Loc}:C.mu id=some L->VR C (.eptr id sz i j) (.pointer (some ⟨L.b,L.o+i * sz+j,none⟩))
 | vptr {cs : List AV} {b o : Nat} (vs : Nat -> Value) : (∀ k, k < cs.length -> C.sig ⟨b, o + k, none⟩ = some (vs k)) -> (∀ k, k < cs.length -> VR C (cs.getD k .junk) (vs k)) -> (∀ c ∈ cs, c.one = true) ->
   VR C (.vptr cs) (.pointer (some ⟨b,o,none⟩))
 |nilslice:VR C .nilslice (.slice none 0 0)
 | vslice {l : List AV} {sz b o cap : Nat} (vs : Nat -> Nat -> Value) : l.length <= cap -> (∀ e ∈ l, e.cells.length = sz) -> (∀ i j, i < l.length -> j < sz -> C.sig ⟨b, o + i * sz + j, none⟩ = some (vs i j)) ->
   (∀i j,i<l.length->j<sz->VR C ((l.getD i .junk).cells.getD j .junk) (vs i j))->(∀e∈l,∀c∈e.cells,c.one=true)->VR C (.vslice l) (.slice (some ⟨b,o,none⟩) l.length cap)
 |vslice0 (a:Addr) (cap:Nat):VR C (.vslice []) (.slice (some a) 0 cap)
 |vempty (a:Addr):VR C .vempty (.slice (some a) 0 0)
 |row {id off len cap:Nat} {L:Loc} (a:Addr):C.mu id=some L->len <=cap->(cap=0\/a=⟨L.b,L.o+off * L.sz,none⟩)->L.o+(off+cap) * L.sz <=L.tot->VR C (.row id off len) (.slice (some a) len cap)
 |nilmap:VR C .nilmap (.map none)
 |map {id:Nat} {L:Loc}:C.mu id=some L->VR C (.map id) (.map (some L.b))
 | func {f : FuncId} {first capt : List AV} {vs ws : Array Value} : vs.size = first.length -> (∀ i, i < first.length -> VR C (first.getD i .junk) (vs.getD i undef)) ->
   ws.size=capt.length->(∀i,i<capt.length->VR C (capt.getD i .junk) (ws.getD i undef))->VR C (.func (.func f) first capt) (.func (.func f) vs ws)
 |yield {id:Nat} {L:Loc}:C.mu id=some L->VR C (.yield id) (.func (.yield L.b) #[] #[])
 |nilfunc:VR C .nilfunc .nilFunc
 |niliface:VR C .niliface .nilIface
 |iface {t:TypeId} {v:AV} {u:Value}:VR C v u->VR C (.iface t v) (.iface t u)
 |agg {cs:List AV} {vs:Array Value}:vs.size=cs.length->(∀i,i<cs.length->VR C (cs.getD i .junk) (vs.getD i undef))->(∀c∈cs,c.one=true)->VR C (.agg cs) (.agg vs)
 |tuple {l:List AV} {vs:Array Value}:vs.size=l.length->(∀i,i<l.length->VR C (l.getD i .junk) (vs.getD i undef))->VR C (.tuple l) (.tuple vs)
theorem VR.mono{C D:Cfg}(h:C.le D){a:AV}{v:Value}(r:VR C a v):VR D a v:=by
 induction r with
 |bool b=>exact .bool b
 |int k n=>exact .int k n
 |str s=>exact .str s
 |nilptr=>exact .nilptr
 |ptr e=>exact .ptr (h.mu _ _ e)
 |eptr e=>exact .eptr (h.mu _ _ e)
 |vptr vs h1 _ h3 ih=>exact .vptr vs (fun k hk=>h.sig _ _ (h1 k hk)) ih h3
 |nilslice=>exact .nilslice
 |vslice vs h1 h2 h3 _ h5 ih=>exact .vslice vs h1 h2 (fun i j hi hj=>h.sig _ _ (h3 i j hi hj)) ih h5
 |vslice0 a cap=>exact .vslice0 a cap
 |vempty a=>exact .vempty a
 |row a h1 h2 h3 h4=>exact .row a (h.mu _ _ h1) h2 h3 h4
 |nilmap=>exact .nilmap
 |map e=>exact .map (h.mu _ _ e)
 |func h1 _ h3 _ ih1 ih2=>exact .func h1 ih1 h3 ih2
 |yield e=>exact .yield (h.mu _ _ e)
 |nilfunc=>exact .nilfunc
 |niliface=>exact .niliface
 |iface _ ih=>exact .iface ih
 |agg h1 _ h3 ih=>exact .agg h1 ih h3
 |tuple h1 _ ih=>exact .tuple h1 ih
theorem VR.outer{C:Cfg}{a:AV}{v:Value}(r:VR C a v):outer a=true:=by cases r<;>rfl
theorem VR.oneCell{C:Cfg}{a:AV}{v:Value}(r:VR C a v)(h:a.one=true):v.cells=#[v]/\(match v with| .agg _| .tuple _=>False|_=>True):=by
 cases r<;>simp_all [AV.one,Value.cells]
def VRs(C:Cfg)(l:List AV)(vs:Array Value):Prop:=vs.size=l.length/\∀i,i<l.length->VR C (l.getD i .junk) (vs.getD i undef)
theorem VRs.mono{C D:Cfg}(h:C.le D){l:List AV}{vs:Array Value}(r:VRs C l vs):VRs D l vs:=⟨r.1,fun i hi=>(r.2 i hi).mono h⟩
theorem VRs.nil(C:Cfg):VRs C [] #[]:=⟨rfl,fun i hi=>by simp at hi⟩
theorem VRs.get{C:Cfg}{l:List AV}{vs:Array Value}(r:VRs C l vs){i:Nat}{a:AV}(h:l[i]? =some a):∃v,vs[i]? =some v/\VR C a v:=by
 have hi:i<l.length:=by
  rcases Nat.lt_or_ge i l.length with h' |h'
  ·exact h'
  ·simp[List.getElem?_eq_none h']at h
 have hv:=r.2 i hi;have hi2:i<vs.size:=by rw[r.1];exact hi
 refine⟨vs[i],by simp[hi2],?_⟩;have e1:l.getD i .junk=a:=by simp[List.getD,h]
 have e2:vs.getD i undef=vs[i]:=by simp[Array.getD,hi2]
 rw[e1,e2]at hv;exact hv
theorem VRs.append{C:Cfg}{l r:List AV}{vs us:Array Value}(h:VRs C l vs)(k:VRs C r us):VRs C (l++r) (vs++us):=by
 refine⟨by simp[h.1,k.1],fun i hi=>?_⟩;by_cases hl:i<l.length
 ·have hv:i<vs.size:=by rw[h.1];exact hl
  have:=h.2 i hl;simpa[List.getD,Array.getD,List.getElem?_append,hl,hv,Array.getElem_append,Nat.lt_add_right]using this
 ·have hv:¬i<vs.size:=by rw[h.1];exact hl
  have hi':i - l.length<r.length:=by simp at hi;omega
  have:=k.2 (i - l.length) hi';have hu:i - vs.size<us.size:=by rw[h.1,k.1];exact hi'
  have hs:i<vs.size+us.size:=by omega
  have e1:(l++r).getD i .junk=r.getD (i - l.length) .junk:=by simp[List.getD,List.getElem?_append,hl]
  have e2:(vs++us).getD i undef=us.getD (i - vs.size) undef:=by simp[Array.getD,hu,hs,hv,Array.getElem_append]
  rw[e1,e2,h.1];exact this
theorem VRs.cons{C:Cfg}{a:AV}{l:List AV}{v:Value}{vs:Array Value}(h:VR C a v)(k:VRs C l vs):VRs C (a::l) (#[v]++vs):=
 VRs.append (l:=[a]) ⟨rfl,fun i hi=>by
  have:i=0:=by simp at hi;exact hi
  subst this;simpa using h⟩ k
theorem VR.cells{C:Cfg}{a:AV}{v:Value}(r:VR C a v)(ht:∀l,a≠.tuple l):VRs C a.cells v.cells/\∀c∈a.cells,c.one=true:=by
 cases r with
 |agg h1 h2 h3=>exact⟨⟨h1,h2⟩,h3⟩
 |tuple=>exact absurd rfl (ht _)
 | _ =>
  refine⟨⟨rfl,fun i hi=>?_⟩,by simp[AV.cells,AV.one]⟩;have:i=0:=by simpa[AV.cells]using hi
  subst this;first
   |exact .bool _|exact .int _ _|exact .str _|exact .nilptr|exact .nilslice|exact .vslice0 _ _|exact .vempty _|exact .nilmap|exact .nilfunc|exact .niliface
   |(simpa[AV.cells,Value.cells,List.getD,Array.getD]using by constructor<;>assumption)
   |(simp only[AV.cells,Value.cells,List.getD,Array.getD];simp;first|exact .ptr ‹_› |exact .eptr ‹_› |exact .vptr _ ‹_› ‹_› ‹_› |exact .vslice _ ‹_› ‹_› ‹_› ‹_› ‹_› |exact .row _ ‹_› ‹_› ‹_› ‹_› |exact .map ‹_› |exact .func ‹_› ‹_› ‹_› ‹_› |exact .yield ‹_› |exact .iface ‹_›)
end Go.AM
set_option linter.unusedVariables false
set_option linter.unusedSectionVars false
namespace Go.AM
open Go
class Keep where
 sig:Addr->Option Value
 obj:Nat->Option Obj
variable[Keep]
def isCells(w:World)(b:Nat)(c:Array Value):Prop:=∃T lo hi,w.heap[b]? =some (.cells c T (lo,hi))/\(hi <=lo\/c.size <=lo)
theorem isCells.cell{w:World}{b:Nat}{c:Array Value}(h:isCells w b c)(o:Nat):w.cell? ⟨b,o,none⟩=c[o]?:=by
 obtain⟨T,lo,hi,h,_⟩:=h;simp[World.cell?,h]
theorem isCells.frozen{w:World}{b:Nat}{c:Array Value}(h:isCells w b c){o:Nat}(ho:o<c.size)(s:Option Nat):w.frozen? ⟨b,o,s⟩=false:=by
 obtain⟨T,lo,hi,h,h2⟩:=h;simp[World.frozen?,h];omega
theorem isCells.lt{w:World}{b:Nat}{c:Array Value}(h:isCells w b c):b<w.heap.size:=by
 obtain⟨T,lo,hi,h,_⟩:=h;rcases Nat.lt_or_ge b w.heap.size with h' |h'
 ·exact h'
 ·simp[Array.getElem?_eq_none h']at h
theorem isCells.same{w w':World}{b:Nat}{c:Array Value}(h:isCells w b c)(e:w'.heap[b]? =w.heap[b]?):isCells w' b c:=by
 obtain⟨T,lo,hi,h,h2⟩:=h;exact⟨T,lo,hi,e.trans h,h2⟩
def tmpV(e:Mp AV)(t:Tmp):AV:=match e.get t with|some v=>v|none=>undefA
def SR(C:Cfg)(lam:Nat->Option Nat)(lm:Mp (Nat×List AV))(a:AV)(v:Value):Prop:=
 match a with
 | .junk=>True
 | .lptr s g off=>∃g' cs β,lm.get s=some (g',cs)/\g <=g'/\v= .pointer (some ⟨β,off,none⟩)/\(g=g'->lam s=some β)
 |a=>VR C a v
theorem SR.of{C:Cfg}{lam:Nat->Option Nat}{lm:Mp (Nat×List AV)}{a:AV}{v:Value}(h:VR C a v):SR C lam lm a v:=by
 cases h<;>(unfold SR;first|exact .bool _|exact .int _ _|exact .str _|exact .nilptr|exact .ptr ‹_› |exact .eptr ‹_› |exact .vptr _ ‹_› ‹_› ‹_› |exact .nilslice|exact .vslice _ ‹_› ‹_› ‹_› ‹_› ‹_› |exact .vslice0 _ _|exact .vempty _|exact .row _ ‹_› ‹_› ‹_› ‹_› |exact .nilmap|exact .map ‹_› |exact .func ‹_› ‹_› ‹_› ‹_› |exact .yield ‹_› |exact .nilfunc|exact .niliface|exact .iface ‹_› |exact .agg ‹_› ‹_› ‹_› |exact .tuple ‹_› ‹_›)
theorem SR.out{C:Cfg}{lam:Nat->Option Nat}{lm:Mp (Nat×List AV)}{a:AV}{v:Value}(h:SR C lam lm a v)(ho:outer a=true):VR C a v:=by
 cases a<;>first|exact h|simp[outer]at ho
theorem SR.mono{C D:Cfg}(hle:C.le D){lam:Nat->Option Nat}{lm:Mp (Nat×List AV)}{a:AV}{v:Value}(h:SR C lam lm a v):SR D lam lm a v:=by
 cases a<;>first|exact h|exact VR.mono hle h
def BR(C:Cfg)(w:World)(L:Loc):Blk->Prop
 | .var cells=>∃c,isCells w L.b c/\L.o=0/\VRs C cells c/\∀x∈cells,x.one=true
 | .rw sz elems => ∃ c, isCells w L.b c /\ L.sz = sz /\ L.tot = c.size /\ L.o + elems.length * sz <= c.size /\
   ∀(i:Nat) (e:AV),elems[i]? =some e->e.cells.length=sz/\(∀x∈e.cells,x.one=true)/\∀(j:Nat) (x:AV),e.cells[j]? =some x->∃v,c[L.o+i * sz+j]? =some v/\VR C x v
 | .mp entries=>∃(es:Array MapEntry) (clock:Nat),w.heap[L.b]? =some (.map es clock)/\es.size=entries.length/\∀(i:Nat) (k v:AV),entries[i]? =some (k,v)->∃e:MapEntry,es[i]? =some e/\VR C k e.key/\VR C v e.val
 | .loop f e ps assign body st pend => ∃ l, w.heap[L.b]? = some (.loop l) /\ l.fn = f /\ l.params.toList = ps /\ l.assign = assign /\ l.body = body /\ l.state = st /\ l.pending = pend /\
   codeOk l.tmps.size assign=true/\codeOk l.tmps.size body=true/\(∀p∈ps,p<l.tmps.size)/\∀t,SR C (fun _=>none) .nil (tmpV e t) (l.tmps.getD t undef)
 | .iter s pos=>w.heap[L.b]? =some (.stringIter ⟨⟨s⟩⟩ pos)/\L.o=0
def Live(C:Cfg)(h:Heap)(b:Nat):Prop:=∃id blk L,h.get id=some blk/\C.mu id=some L/\L.b=b
def Base(C:Cfg)(w:World):Prop:=(∀x v,Keep.sig x=some v->C.sig x=some v)/\∀x v o,Keep.sig x=some v->Keep.obj x.block=some o->w.heap[x.block]? =some o
theorem Base.on{C D:Cfg}{w w':World}(b:Base C w)(hle:∀x v,C.sig x=some v->D.sig x=some v)(hs:∀x v,C.sig x=some v->w'.heap[x.block]? =w.heap[x.block]?):Base D w':=
 ⟨fun x v e=>hle x v (b.1 x v e),fun x v o e1 e2=>(hs x v (b.1 x v e1)).trans (b.2 x v o e1 e2)⟩
structure WR(C:Cfg)(h:Heap)(w:World):Prop where
 sig:∀x v,C.sig x=some v->w.cell? x=some v
 blk:∀id blk,h.get id=some blk->∃L,C.mu id=some L/\BR C w L blk
 inj:∀id id' blk blk' L L',h.get id=some blk->h.get id'=some blk'->C.mu id=some L->C.mu id'=some L'->L.b=L'.b->id=id'
 apart:∀id blk L x v,h.get id=some blk->C.mu id=some L->C.sig x=some v->x.block≠L.b
 fresh:∀id L,C.mu id=some L->id<h.next
 base:Base C w
theorem BR.lt{C:Cfg}{w:World}{L:Loc}{blk:Blk}(h:BR C w L blk):L.b<w.heap.size:=by
 have key:∀(o:Obj),w.heap[L.b]? =some o->L.b<w.heap.size:=fun o h=>by
  rcases Nat.lt_or_ge L.b w.heap.size with h' |h'
  ·exact h'
  ·simp[Array.getElem?_eq_none h']at h
 cases blk with
 |var cells=>obtain⟨c,h,_⟩:=h;exact h.lt
 |rw sz elems=>obtain⟨c,h,_⟩:=h;exact h.lt
 |mp entries=>obtain⟨es,clock,h,_⟩:=h;exact key _ h
 |loop=>obtain⟨l,h,_⟩:=h;exact key _ h
 |iter s pos=>exact key (.stringIter ⟨⟨s⟩⟩ pos) h.1
theorem WR.live_lt{C:Cfg}{h:Heap}{w:World}(r:WR C h w){b:Nat}(l:Live C h b):b<w.heap.size:=by
 obtain⟨id,blk,L,h1,h2,rfl⟩:=l;obtain⟨L',h3,h4⟩:=r.blk id blk h1;rw[h2]at h3;cases h3;exact h4.lt
theorem BR.same{C D:Cfg}{w w':World}{L:Loc}{blk:Blk}(h:BR C w L blk)(hle:C.le D)(e:w'.heap[L.b]? =w.heap[L.b]?):BR D w' L blk:=by
 cases blk with
 |var cells=>obtain⟨c,h1,h2,h3,h4⟩:=h;exact⟨c,h1.same e,h2,h3.mono hle,h4⟩
 |rw sz elems=>
  obtain⟨c,h1,h2,h3,h4,h5⟩:=h;refine⟨c,h1.same e,h2,h3,h4,fun i x hx=>?_⟩;obtain⟨k1,k2,k3⟩:=h5 i x hx;exact⟨k1,k2,fun j y hy=>let ⟨v,hv,hr⟩:=k3 j y hy;⟨v,hv,hr.mono hle⟩⟩
 |mp entries=>
  obtain⟨es,clock,h1,h2,h3⟩:=h;refine⟨es,clock,e.trans h1,h2,fun i k v hk=>?_⟩;obtain⟨x,hx,r1,r2⟩:=h3 i k v hk;exact⟨x,hx,r1.mono hle,r2.mono hle⟩
 |loop f e' ps assign body st pend=>
  obtain⟨l,h1,h2,h3,h4,h5,h6,h7,h8,h9,h10,h11⟩:=h;exact⟨l,e.trans h1,h2,h3,h4,h5,h6,h7,h8,h9,h10,fun t=>(h11 t).mono hle⟩
 |iter s pos=>exact⟨e.trans h.1,h.2⟩
inductive DfR(C:Cfg):List (AV×List AV)->List Deferred->List Nat->Prop
 |nil:DfR C [] [] []
 |mark {df:List (AV×List AV)} {ds:List Deferred} {ms:List Nat} (r:Nat):DfR C df ds ms->DfR C df ({ target:=.collected r,args:=#[] }::ds) (r::ms)
 | fn {df : List (AV × List AV)} {ds : List Deferred} {ms : List Nat} {g : FuncId} {first capt args : List AV} {vs ws : Array Value} : DfR C df ds ms -> VRs C (first ++ args) vs -> VRs C capt ws ->
   DfR C ((.func (.func g) first capt,args)::df) ({ target:=.fn (.func g) ws,args:=vs }::ds) ms
theorem DfR.mono{C D:Cfg}(hle:C.le D){df:List (AV×List AV)}{ds:List Deferred}{ms:List Nat}(h:DfR C df ds ms):DfR D df ds ms:=by
 induction h with
 |nil=>exact .nil
 |mark r _ ih=>exact .mark r ih
 |fn _ h1 h2 ih=>exact .fn ih (h1.mono hle) (h2.mono hle)
def UpR(C:Cfg)(kind:CallKind)(up:Option (AV×Bool))(cs:List Frame):Prop:=
 match up with
 |none=>kind= .normal\/(kind= .deferred/\∃c rest,cs=c::rest/\c.mode= .returning)
 |some (v,r)=>kind= .deferred/\∃c rest u,cs=c::rest/\c.mode= .panicking [{ v:=u,recovered:=r,goexit:=false }]/\VR C v u
theorem UpR.mono{C D:Cfg}(hle:C.le D){kind:CallKind}{up:Option (AV×Bool)}{cs:List Frame}(h:UpR C kind up cs):UpR D kind up cs:=by
 cases up with
 |none=>exact h
 |some p=>obtain⟨h1,c,rest,u,h2,h3,h4⟩:=h;exact⟨h1,c,rest,u,h2,h3,h4.mono hle⟩
def Own(lam:Nat->Option Nat)(ms:List Nat)(b:Nat):Prop:=(∃s,lam s=some b)\/b∈ms
def BoxR(C:Cfg)(w:World)(lm:Mp (Nat×List AV))(s b:Nat):Prop:=
 ∃g cells c,lm.get s=some (g,cells)/\isCells w b c/\VRs C cells c/\∀x∈cells,x.one=true
structure St(C:Cfg)(lam:Nat->Option Nat)(ms:List Nat)(F:Fr)(b:Frame)(a:Act)(w:World)(cs:List Frame):Prop where
 wr:WR C F.hp w
 env:∀t,SR C lam F.lm (F.tmp t) (a.tmps.getD t undef)
 box:∀s β,lam s=some β->BoxR C w F.lm s β
 inj:∀s s' β,lam s=some β->lam s'=some β->s=s'
 mark:∀r∈ms,w.heap[r]? =some (.deferred (some []))
 nodup:ms.Nodup
 live:∀ β,Own lam ms β->¬Live C F.hp β
 osig:∀ β x v,Own lam ms β->C.sig x=some v->x.block≠β
 df:DfR C F.df a.defers ms
 up:UpR C b.kind F.up cs
 fn:b.fn=F.f
 rnd:b.roundOf.isSome=F.rnd
theorem St.own_lt{C:Cfg}{lam:Nat->Option Nat}{ms:List Nat}{F:Fr}{b:Frame}{a:Act}{w:World}{cs:List Frame}(s:St C lam ms F b a w cs){β:Nat}(h:Own lam ms β):β<w.heap.size:=by
 rcases h with⟨t,ht⟩|h
 ·obtain⟨g,cells,c,_,h2,_⟩:=s.box t β ht
  exact h2.lt
 ·have:=s.mark β h
  rcases Nat.lt_or_ge β w.heap.size with h' |h'
  ·exact h'
  ·simp[Array.getElem?_eq_none h']at this
structure Ext(C:Cfg)(h:Heap)(O:Nat->Prop)(w:World)(C':Cfg)(h':Heap)(O':Nat->Prop)(w':World):Prop where
 le:C.le C'
 os:w'.os=w.os
 tape:w'.tape=w.tape
 output:w'.output=w.output
 size:w.heap.size <=w'.heap.size
 same:∀ β,β<w.heap.size->¬Live C h β->¬O β->w'.heap[β]? =w.heap[β]?
 live:∀ β,β<w.heap.size->Live C' h' β->Live C h β \/ O β
 own:∀ β,β<w.heap.size->O' β->Live C h β \/ O β
 sig:∀x v,x.block<w.heap.size->C'.sig x=some v->C.sig x=some v\/Live C h x.block\/O x.block
 next:h.next <=h'.next
theorem Ext.refl(C:Cfg)(h:Heap)(O:Nat->Prop)(w:World):Ext C h O w C h O w:=
 ⟨.refl C,rfl,rfl,rfl,Nat.le_refl _,fun _ _ _ _=>rfl,fun _ _ l=>.inl l,fun _ _ o=>.inr o,fun _ _ _ s=>.inl s,Nat.le_refl _⟩
theorem Ext.trans{C C' C'':Cfg}{h h' h'':Heap}{O O' O'':Nat->Prop}{w w' w'':World}(e:Ext C h O w C' h' O' w')(f:Ext C' h' O' w' C'' h'' O'' w''):Ext C h O w C'' h'' O'' w'' where
 le:=e.le.trans f.le
 os:=f.os.trans e.os
 tape:=f.tape.trans e.tape
 output:=f.output.trans e.output
 size:=Nat.le_trans e.size f.size
 same β hb hl ho:=by
  refine(f.same β (Nat.lt_of_lt_of_le hb e.size) (fun l=>?_) (fun o=>?_)).trans (e.same β hb hl ho)
  ·rcases e.live β hb l with h|h
   ·exact hl h
   ·exact ho h
  ·rcases e.own β hb o with h|h
   ·exact hl h
   ·exact ho h
 live β hb l:=by
  rcases f.live β (Nat.lt_of_lt_of_le hb e.size) l with l|o
  ·exact e.live β hb l
  ·exact e.own β hb o
 own β hb o:=by
  rcases f.own β (Nat.lt_of_lt_of_le hb e.size) o with l|o
  ·exact e.live β hb l
  ·exact e.own β hb o
 sig x v hb s:=by
  rcases f.sig x v (Nat.lt_of_lt_of_le hb e.size) s with s|l|o
  ·exact e.sig x v hb s
  ·exact .inr (e.live _ hb l)
  ·exact .inr (e.own _ hb o)
 next:=Nat.le_trans e.next f.next
theorem Ext.wide{C C':Cfg}{h h':Heap}{w w':World}(e:Ext C h (fun _=>False) w C' h' (fun _=>False) w')(O:Nat->Prop):Ext C h O w C' h' O w' where
 le:=e.le
 os:=e.os
 tape:=e.tape
 output:=e.output
 size:=e.size
 same β hb hl _:=e.same β hb hl id
 live β hb l:=(e.live β hb l).imp id False.elim
 own _ _ o:=.inr o
 sig x v hb s:=by
  rcases e.sig x v hb s with s|l|o
  ·exact .inl s
  ·exact .inr (.inl l)
  ·exact o.elim
 next:=e.next
theorem St.later{C C':Cfg}{lam:Nat->Option Nat}{ms:List Nat}{F:Fr}{b:Frame}{a:Act}{w w':World}{cs:List Frame}{h':Heap}(s:St C lam ms F b a w cs)(r:WR C' h' w')
  (e:Ext C F.hp (fun _=>False) w C' h' (fun _=>False) w'):St C' lam ms { F with hp:=h' } b a w' cs where
 wr:=r
 env t:=(s.env t).mono e.le
 box t β ht:=by
  obtain⟨g,cells,c,h1,h2,h3,h4⟩:=s.box t β ht;exact⟨g,cells,c,h1,h2.same (e.same β h2.lt (s.live β (.inl ⟨t,ht⟩)) id),h3.mono e.le,h4⟩
 inj:=s.inj
 mark m hm:=(e.same m (s.own_lt (.inr hm)) (s.live m (.inr hm)) id).trans (s.mark m hm)
 nodup:=s.nodup
 live β ho l:=by
  rcases e.live β (s.own_lt ho) l with l|l
  ·exact s.live β ho l
  ·exact l
 osig β x v ho hs hx:=by
  subst hx;rcases e.sig x v (s.own_lt ho) hs with h|h|h
  ·exact s.osig _ x v ho h rfl
  ·exact s.live _ ho h
  ·exact h
 df:=s.df.mono e.le
 up:=s.up.mono e.le
 fn:=s.fn
 rnd:=s.rnd
theorem ofScalar_ok{C:Cfg}{v:Value}{a:AV}(h:ofScalar v=some a):VR C a v/\a.one=true:=by
 cases v with
 |bool b=>simp[ofScalar]at h;subst h;exact⟨.bool _,rfl⟩
 |int k n=>simp[ofScalar]at h;subst h;exact⟨.int _ _,rfl⟩
 |string s=>simp[ofScalar]at h;subst h;exact⟨.str _,rfl⟩
 |pointer p=>cases p<;>simp[ofScalar]at h;subst h;exact⟨.nilptr,rfl⟩
 | slice p n c =>
  cases p with
  |some p=>simp[ofScalar]at h
  |none=>
   simp[ofScalar]at h;obtain⟨⟨rfl,rfl⟩,rfl⟩:=h;exact⟨.nilslice,rfl⟩
 |map r=>cases r<;>simp[ofScalar]at h;subst h;exact⟨.nilmap,rfl⟩
 |nilFunc=>simp[ofScalar]at h;subst h;exact⟨.nilfunc,rfl⟩
 |nilIface=>simp[ofScalar]at h;subst h;exact⟨.niliface,rfl⟩
 | func fn x y =>
  simp only[ofScalar,scalarFn]at h;cases fn with
  | func f =>
   simp only at h;split at h
   ·rename_i hh
    cases h;obtain⟨hx,hy⟩:=hh;have ex:x=#[]:=Array.eq_empty_of_size_eq_zero hx;have ey:y=#[]:=Array.eq_empty_of_size_eq_zero hy;subst ex;subst ey;exact⟨.func rfl (fun i hi=>by simp at hi) rfl (fun i hi=>by simp at hi),rfl⟩
   ·cases h
  |_=>simp at h
 |_=>simp[ofScalar]at h
theorem ofCells_ok{C:Cfg}:∀(l:List Value) (as:List AV),ofCells ofScalar l=some as->VRs C as l.toArray/\∀x∈as,x.one=true:=by
 intro l;induction l with
 |nil=>intro as h;simp[ofCells]at h;subst h;exact⟨VRs.nil C,by simp⟩
 | cons v l ih =>
  intro as h;simp only[ofCells]at h;cases h1:ofScalar v with
  |none=>simp[h1]at h
  | some a =>
   cases h2:ofCells ofScalar l with
   |none=>simp[h1,h2]at h
   |some r=>
    simp[h1,h2]at h;subst h;obtain⟨k1,k2⟩:=ih r h2;obtain⟨j1,j2⟩:=ofScalar_ok (C:=C) h1;refine⟨?_,by simpa[j2]using k2⟩;have:=VRs.cons j1 k1;simpa using this
theorem ofValue_ok{C:Cfg}{v:Value}{a:AV}(h:ofValue v=some a):VR C a v:=by
 unfold ofValue at h;split at h
 ·rename_i cs
  cases h1:ofCells ofScalar cs.toList with
  |none=>simp[h1]at h
  |some l=>
   simp[h1]at h;subst h;obtain⟨k1,k2⟩:=ofCells_ok (C:=C) _ _ h1;exact .agg (by simpa using k1.1) (fun i hi=>by simpa using k1.2 i hi) k2
 ·rename_i cs
  cases h1:ofCells ofScalar cs.toList with
  |none=>simp[h1]at h
  |some l=>
   simp[h1]at h;subst h;obtain⟨k1,k2⟩:=ofCells_ok (C:=C) _ _ h1;exact .tuple (by simpa using k1.1) (fun i hi=>by simpa using k1.2 i hi)
 ·exact(ofScalar_ok h).1
section
variable{C:Cfg}{lam:Nat->Option Nat}{ms:List Nat}{F:Fr}{b:Frame}{a:Act}{w:World}{cs:List Frame}
theorem St.opd(s:St C lam ms F b a w cs){x:Operand}{v:AV}(h:F.opd x=some v):SR C lam F.lm v (a.eval x):=by
 cases x with
 |tmp t=>simp[Fr.opd]at h;subst h;exact s.env t
 |const u=>exact SR.of (ofValue_ok h)
 |global g=>simp[Fr.opd]at h
 |func f=>simp[Fr.opd]at h;subst h;exact SR.of (.func rfl (fun i hi=>by simp at hi) rfl (fun i hi=>by simp at hi))
theorem St.opv(s:St C lam ms F b a w cs){x:Operand}{v:AV}(h:F.opv x=some v):VR C v (a.eval x):=by
 unfold Fr.opv at h;cases h1:F.opd x with
 |none=>simp[h1]at h
 |some u=>
  simp[h1]at h;obtain⟨h2,rfl⟩:=h;exact(s.opd h1).out h2
theorem St.opvs(s:St C lam ms F b a w cs):∀(l:List Operand) (vs:List AV),F.opvs l=some vs->VRs C vs (l.toArray.map a.eval):=by
 intro l;induction l with
 |nil=>intro vs h;simp[Fr.opvs]at h;subst h;simpa using VRs.nil C
 | cons x l ih =>
  intro vs h;simp only[Fr.opvs]at h;cases h1:F.opv x with
  |none=>simp[h1]at h
  | some u =>
   cases h2:F.opvs l with
   |none=>simp[h1,h2]at h
   |some r=>
    simp[h1,h2]at h;subst h;have:=VRs.cons (s.opv h1) (ih r h2);simpa using this
theorem St.mem(s:St C lam ms F b a w cs){p:AV}{pv:Value}{cells:List AV}{off:Nat}(hp:SR C lam F.lm p pv)(h:F.mem p=some (cells,off)) :
  ∃B O,pv= .pointer (some ⟨B,O,none⟩)/\∀k x,cells[off+k]? =some x->∃v,w.cell? ⟨B,O+k,none⟩=some v/\VR C x v/\x.one=true:=by
 cases p with
 | lptr t g o =>
  simp only[Fr.mem]at h;cases h1:F.lm.get t with
  |none=>simp[h1]at h
  |some gc=>
   obtain⟨g',cs'⟩:=gc;simp[h1]at h;obtain⟨rfl,rfl,rfl⟩:=h;obtain⟨g2,cs2,β,e1,_,e4,e2⟩:=hp;rw[h1]at e1;cases e1;have e3:=e2 rfl;obtain⟨g3,cells3,c,f1,f2,f3,f4⟩:=s.box t β e3;rw[h1]at f1;cases f1;refine⟨β,o,e4,fun k x hx=>?_⟩;obtain⟨v,hv,hr⟩:=f3.get hx;exact⟨v,(f2.cell _).trans hv,hr,f4 x (List.mem_of_getElem? hx)⟩
 | ptr id o =>
  simp only[Fr.mem]at h;cases h1:F.hp.get id with
  |none=>simp[h1]at h
  | some blk =>
   cases blk with
   | var cs' =>
    simp[h1]at h;obtain⟨rfl,rfl⟩:=h;obtain⟨L,e1,c,f1,f2,f3,f4⟩:=s.wr.blk id _ h1;cases hp with
    |ptr e2=>
     rw[e1]at e2;cases e2;refine⟨L.b,L.o+o,rfl,fun k x hx=>?_⟩;obtain⟨v,hv,hr⟩:=f3.get hx;refine⟨v,(f1.cell _).trans ?_,hr,f4 x (List.mem_of_getElem? hx)⟩;rw[f2,Nat.zero_add];exact hv
   |_=>simp[h1]at h
 | eptr id sz i j =>
  simp only[Fr.mem]at h;cases h1:F.hp.get id with
  |none=>simp[h1]at h
  | some blk =>
   cases blk with
   | rw sz' el =>
    simp only[h1]at h;by_cases hsz:sz=sz'
    ·simp only[hsz,if_true]at h
     cases h2:el[i]? with
     |none=>simp[h2]at h
     | some e =>
      simp[h2]at h;obtain⟨rfl,rfl⟩:=h;obtain⟨L,e1,c,f1,f2,f3,f4,f5⟩:=s.wr.blk id _ h1;obtain⟨g1,g2,g3⟩:=f5 i e h2;cases hp with
      |eptr e2=>
       rw[e1]at e2;cases e2;refine⟨L.b,L.o+i * sz+j,rfl,fun k x hx=>?_⟩;obtain⟨v,hv,hr⟩:=g3 (j+k) x hx;refine⟨v,(f1.cell _).trans ?_,hr,g2 x (List.mem_of_getElem? hx)⟩;subst hsz;rw[Nat.add_assoc];exact hv
    ·simp[hsz]at h
   |_=>simp[h1]at h
 | vptr cs' =>
  simp[Fr.mem]at h;obtain⟨rfl,rfl⟩:=h;cases hp with
  | vptr vs k1 k2 k3 =>
   refine⟨_,_,rfl,fun k x hx=>?_⟩;rw[Nat.zero_add]at hx;have hk:k<cs'.length:=by
    rcases Nat.lt_or_ge k cs'.length with h' |h'
    ·exact h'
    ·simp[List.getElem?_eq_none h']at hx
   have e:cs'.getD k .junk=x:=by simp[List.getD,hx]
   exact⟨vs k,s.wr.sig _ _ (k1 k hk),e▸k2 k hk,k3 x (List.mem_of_getElem? hx)⟩
 |_=>simp[Fr.mem]at h
end
end Go.AM
namespace Go.AM
open Go
variable[Keep]
section
variable{P:Program}{w:World}{C:Cfg}
theorem run_und{t:TypeId}{d:TypeDesc}(h:P.underlying t=some d):(underlying t).run P w= .ok d w:=by simp[underlying,h]
theorem run_info{t:TypeId}{i:TypeInfo}(h:P.info? t=some i):(typeInfo t).run P w= .ok i w:=by simp[typeInfo,h]
theorem run_lay{t:TypeId}{ag:Bool}{n:Nat}(h:lay P t=some (ag,n)):(isAgg t).run P w= .ok ag w/\(sizeOf t).run P w= .ok n w/\∃i,P.info? t=some i/\i.size=n:=by
 unfold lay at h;split at h
 ·rename_i d i h1 h2
  cases h;refine⟨?_,by simp[sizeOf,run_info h2],i,h2,rfl⟩;simp only[isAgg,Sem.run_bind,run_und h1,Result.andThen_ok];cases d<;>rfl
 ·cases h
theorem run_zero{t:TypeId}{z:AV}(h:zeroT P t=some z):∃v,(zeroValue t).run P w= .ok v w/\VR C z v/\(∃i,P.info? t=some i/\i.zero=some v):=by
 unfold zeroT at h;split at h
 ·rename_i i h1
  split at h
  ·rename_i v h2
   exact⟨v,by simp[zeroValue,run_info h1,h2],ofValue_ok h,i,h1,h2⟩
  ·cases h
 ·cases h
theorem VRs.extract{l:List AV}{vs:Array Value}(h:VRs C l vs){o n:Nat}(hle:o+n <=l.length):VRs C ((l.drop o).take n) (vs.extract o (o+n)):=by
 refine⟨by simp[h.1];omega,fun i hi=>?_⟩;simp at hi;have:=h.2 (o+i) (by omega);have e1:((l.drop o).take n).getD i .junk=l.getD (o+i) .junk:=by
  have:i<n:=by omega
  simp[List.getD,List.getElem?_take,List.getElem?_drop,this]
 have e2:(vs.extract o (o+n)).getD i undef=vs.getD (o+i) undef:=by
  have h1:o+i<vs.size:=by rw[h.1];omega
  have h2:i<min (o+n) vs.size - o:=by rw[h.1];omega
  simp[Array.getD,h1,h2]
 rw[e1,e2];exact this
theorem mem_drop_take{l:List AV}{o n:Nat}{x:AV}(h:x∈(l.drop o).take n):x∈l:=List.mem_of_mem_drop (List.mem_of_mem_take h)
theorem run_loadCellsFrom(B O:Nat):∀(n i:Nat) (acc:Array Value) (cells:List AV),(∀k x,k<n->cells[k]? =some x->∃v,w.cell? ⟨B,O+(i+k),none⟩=some v/\VR C x v)->n <=cells.length->
  ∃vs,(loadCellsFrom ⟨B,O,none⟩ i n acc).run P w= .ok (acc++vs) w/\VRs C (cells.take n) vs:=by
 intro n;induction n with
 |zero=>intro i acc cells _ _;exact⟨#[],by simp[loadCellsFrom],by simpa using VRs.nil C⟩
 | succ n ih =>
  intro i acc cells h hn;cases cells with
  |nil=>simp at hn
  | cons x r =>
   obtain⟨v,hv,hr⟩:=h 0 x (by omega) (by simp);obtain⟨vs,h1,h2⟩:=ih (i+1) (acc.push v) r (fun k y hk hy=>by
    have:=h (k+1) y (by omega) (by simpa using hy)
    rwa [show i+1+k=i+(k+1) from by omega]) (by simp at hn;omega)
   refine⟨#[v]++vs,?_,by simpa using VRs.cons hr h2⟩;have ha:(⟨B,O,none⟩:Addr).add i=⟨B,O+i,none⟩:=by
    unfold Addr.add;split<;>simp_all
   simp only[loadCellsFrom,Sem.run_bind,ha,run_load];simp only[Nat.add_zero]at hv;simp only[hv,Result.andThen_ok,h1];simp
theorem run_loadCells{B O n:Nat}{cells:List AV}(h:∀k x,k<n->cells[k]? =some x->∃v,w.cell? ⟨B,O+k,none⟩=some v/\VR C x v)(hn:n <=cells.length) :
  ∃vs,(loadCells ⟨B,O,none⟩ n).run P w= .ok vs w/\VRs C (cells.take n) vs:=by
 obtain⟨vs,h1,h2⟩:=run_loadCellsFrom (P:=P) B O n 0 #[] cells (fun k x hk hx=>by simpa using h k x hk hx) hn;exact⟨vs,by simpa[loadCells]using h1,h2⟩
def Reads(C:Cfg)(w:World)(B O:Nat)(cells:List AV)(off:Nat):Prop:=∀k x,cells[off+k]? =some x->∃v,w.cell? ⟨B,O+k,none⟩=some v/\VR C x v/\x.one=true
theorem run_loadVar{t:TypeId}{B O off:Nat}{cells:List AV}{av:AV}(h:Reads C w B O cells off)(hr:readT P t cells off=some av):∃v,(loadVar t ⟨B,O,none⟩).run P w= .ok v w/\VR C av v:=by
 unfold readT at hr;split at hr
 ·rename_i ag n hl
  obtain⟨k1,k2,_⟩:=run_lay (w:=w) hl;unfold readAt at hr;cases ag with
  | true =>
   simp only[if_true]at hr;split at hr
   ·rename_i hle
    cases hr;obtain⟨vs,h1,h2⟩:=run_loadCells (P:=P) (C:=C) (w:=w) (B:=B) (O:=O) (n:=n) (cells:=cells.drop off) (fun k x _ hx=>by
     rw[List.getElem?_drop]at hx;obtain⟨v,hv,hr,_⟩:=h k x hx;exact⟨v,hv,hr⟩) (by simp;omega)
    refine⟨.agg vs,by simp[loadVar,k1,k2,h1],.agg h2.1 h2.2 fun c hc=>?_⟩;obtain⟨k,hk⟩:=List.mem_iff_getElem?.1 hc;rw[List.getElem?_take]at hk;split at hk
    ·rw[List.getElem?_drop]at hk
     obtain⟨_,_,_,h4⟩:=h k c hk;exact h4
    ·cases hk
   ·cases hr
  |false=>
   simp only[Bool.false_eq_true,if_false]at hr;obtain⟨v,hv,hr',_⟩:=h 0 av (by simpa using hr);simp only[Nat.add_zero]at hv;exact⟨v,by simp[loadVar,k1,hv],hr'⟩
 ·cases hr
theorem run_part{t:TypeId}{cs:List AV}{vs:Array Value}{off:Nat}{av:AV}(h:VRs C cs vs)(h1:∀c∈cs,c.one=true)(hr:readT P t cs off=some av):∃v,(part t vs off).run P w= .ok v w/\VR C av v:=by
 unfold readT at hr;split at hr
 ·rename_i ag n hl
  obtain⟨k1,k2,_⟩:=run_lay (w:=w) hl;unfold readAt at hr;cases ag with
  | true =>
   simp only[if_true]at hr;split at hr
   ·rename_i hle
    cases hr;have:=h.extract hle;exact⟨_,by simp[part,k1,k2],.agg this.1 this.2 fun c hc=>h1 c (mem_drop_take hc)⟩
   ·cases hr
  |false=>
   simp only[Bool.false_eq_true,if_false]at hr;obtain⟨v,hv,hr'⟩:=h.get hr;exact⟨v,by simp[part,k1,hv],hr'⟩
 ·cases hr
theorem VR.int_inv{k:IntKind}{n:Int}{v:Value}(h:VR C (.int k n) v):v= .int k n:=by cases h;rfl
theorem VR.bool_inv{b:Bool}{v:Value}(h:VR C (.bool b) v):v= .bool b:=by cases h;rfl
theorem VR.str_inv{s:List UInt8}{v:Value}(h:VR C (.str s) v):v= .string ⟨⟨s⟩⟩:=by cases h;rfl
theorem VR.agg_inv{cs:List AV}{v:Value}(h:VR C (.agg cs) v):∃vs,v= .agg vs/\VRs C cs vs/\∀c∈cs,c.one=true:=by
 cases h with
 |agg h1 h2 h3=>exact⟨_,rfl,⟨h1,h2⟩,h3⟩
theorem str_beq(a b:List UInt8):((⟨⟨a⟩⟩:ByteArray)==⟨⟨b⟩⟩)=(a==b):=by
 show (Array.mk a==Array.mk b)=_;simp
theorem str_toList(a:List UInt8):(⟨⟨a⟩⟩:ByteArray).toList=a:=ByteArray.toList_eq _
def eqElemsM(d:Nat)(e:TypeId)(n:Nat)(xs ys:Array Value):List Nat->Sem Bool
 | []=>pure true
 |i::r=>do
  let a <-part e xs (i * n)
  let b <-part e ys (i * n)
  let c <-Op.equalIn d e a b
  if (!c)=true then pure false else eqElemsM d e n xs ys r
theorem run_equalIn_array{w:World}(d:Nat)(t e:TypeId)(len n:Nat)(xs ys:Array Value)(ht:P.underlying t=some (.array len e))(hs:(sizeOf e).run P w= .ok n w) :
  (Op.equalIn (d+1) t (.agg xs) (.agg ys)).run P w=(eqElemsM d e n xs ys (List.range len)).run P w:=by
 simp only[Op.equalIn,Sem.run_bind,run_und ht,Result.andThen_ok,hs];rw[Std.Legacy.Range.forIn_eq_forIn_range'];have e1:List.range' (Std.Legacy.Range.mk 0 len 1 (by decide)).start (Std.Legacy.Range.mk 0 len 1 (by decide)).size (Std.Legacy.Range.mk 0 len 1 (by decide)).step=List.range len:=by
  simp[Std.Legacy.Range.size,List.range_eq_range']
 rw[e1];generalize List.range len=l;clear e1 hs;induction l generalizing w with
 |nil=>simp[eqElemsM]
 | cons i l ih =>
  simp only[List.forIn_cons,eqElemsM,Sem.run_bind,Sem.run_ite];generalize (part e xs (i * n)).run P w=r1;cases r1 with
  | ok a w1 =>
   simp only[Result.andThen_ok];generalize (part e ys (i * n)).run P w1=r2;cases r2 with
   | ok b w2 =>
    simp only[Result.andThen_ok];generalize (Op.equalIn d e a b).run P w2=r3;cases r3 with
    | ok r w3 =>
     cases r
     ·simp only[Result.andThen_ok,Bool.not_false,if_true,Sem.run_pure]
     ·simp only[Result.andThen_ok,Bool.not_true,Bool.false_eq_true,if_false,Sem.run_pure]
      exact ih (w:=w3)
    |halt x w3=>simp[Result.andThen]
   |halt x w2=>simp[Result.andThen]
  |halt x w1=>simp[Result.andThen]
theorem eqT_ok : ∀ (d : Nat) (t : TypeId) (x y : AV) (r : Bool), eqT P d t x y = some r -> ∀ (xv yv : Value), VR C x xv -> VR C y yv -> ∀ k, (Op.equalIn (d + k) t xv yv).run P w = .ok r w := by
 intro d;induction d with
 |zero=>intro t x y r h;simp[eqT]at h
 | succ d ih =>
  intro t x y r h xv yv hx hy k;rw[show d+1+k=(d+k)+1 from by omega];unfold eqT at h;split at h
  ·rename_i a b ht
   cases h;rw[hx.bool_inv,hy.bool_inv];simp[Op.equalIn,run_und ht]
  ·rename_i k1 k2 a k3 b ht
   split at h
   ·rename_i e
    cases h;subst e;rw[hx.int_inv,hy.int_inv];simp[Op.equalIn,run_und ht]
   ·cases h
  ·rename_i a b ht
   cases h;rw[hx.str_inv,hy.str_inv];simp[Op.equalIn,run_und ht,str_beq]
  ·rename_i fs xs ys ht
   split at h
   ·cases h
   ·rename_i hst
    obtain⟨vx,rfl,rx,ox⟩:=hx.agg_inv;obtain⟨vy,rfl,ry,oy⟩:=hy.agg_inv;have hf:P.fieldsOf t=fs:=by simp[Program.fieldsOf,ht]
    rw[run_equalIn_struct w (d+k) t vx vy (by rw[hf];exact ht) (by simpa using hst),hf];revert h;generalize fs.toList=l;clear hf ht;induction l with
    |nil=>intro h;simp[eqFields]at h;subst h;simp[Op.eqFields]
    | cons f l ihl =>
     intro h;simp only[eqFields]at h;simp only[Op.eqFields];by_cases hn:f.name = "_"
     ·simp only[hn,if_true]at h
      simp only[hn,ne_eq,not_true,if_false];exact ihl h
     ·simp only[hn,if_false]at h
      simp only[ne_eq,hn,not_false_eq_true,if_true];split at h
      ·rename_i p q hp hq
       obtain⟨pv,e1,r1⟩:=run_part (w:=w) rx ox hp;obtain⟨qv,e2,r2⟩:=run_part (w:=w) ry oy hq;split at h
       ·rename_i he
        simp only[Sem.run_bind,e1,e2,Result.andThen_ok,ih _ _ _ _ he _ _ r1 r2 k];simpa using ihl h
       ·rename_i he
        cases h;simp only[Sem.run_bind,e1,e2,Result.andThen_ok,ih _ _ _ _ he _ _ r1 r2 k];simp
       ·cases h
      ·cases h
  ·rename_i n e xs ys ht
   split at h
   ·rename_i ag m hl
    obtain⟨vx,rfl,rx,ox⟩:=hx.agg_inv;obtain⟨vy,rfl,ry,oy⟩:=hy.agg_inv;obtain⟨_,k2,_⟩:=run_lay (w:=w) hl;rw[run_equalIn_array (d+k) t e n m vx vy ht k2];revert h;generalize List.range n=l;clear ht;induction l with
    |nil=>intro h;simp[eqElems]at h;subst h;simp[eqElemsM]
    | cons i l ihl =>
     intro h;simp only[eqElems]at h;simp only[eqElemsM];split at h
     ·rename_i p q hp hq
      obtain⟨pv,e1,r1⟩:=run_part (w:=w) rx ox hp;obtain⟨qv,e2,r2⟩:=run_part (w:=w) ry oy hq;split at h
      ·rename_i he
       simp only[Sem.run_bind,e1,e2,Result.andThen_ok,ih _ _ _ _ he _ _ r1 r2 k];simpa using ihl h
      ·rename_i he
       cases h;simp only[Sem.run_bind,e1,e2,Result.andThen_ok,ih _ _ _ _ he _ _ r1 r2 k];simp
      ·cases h
     ·cases h
   ·cases h
  ·cases h
theorem eq_ok{t:TypeId}{x y:AV}{r:Bool}(h:eqT P eqDepth t x y=some r){xv yv:Value}(hx:VR C x xv)(hy:VR C y yv):(Op.equal t xv yv).run P w= .ok r w:=
 eqT_ok eqDepth t x y r h xv yv hx hy 9992
end
end Go.AM
namespace Go.AM
open Go
variable[Keep]
section
variable{P:Program}{w:World}{C:Cfg}{lam:Nat->Option Nat}{ms:List Nat}{F:Fr}{b:Frame}{a:Act}{cs:List Frame}
def Runs(P:Program)(w:World)(C:Cfg)(lam:Nat->Option Nat)(F:Fr)(e:Sem Value)(v:AV):Prop:=∃u,e.run P w= .ok u w/\SR C lam F.lm v u
theorem Runs.of{e:Sem Value}{v:AV}{u:Value}(h:e.run P w= .ok u w)(r:VR C v u):Runs P w C lam F e v:=⟨u,h,SR.of r⟩
theorem whenB_some{c b r:Bool}(h:whenB c b=some r):c=true/\r=b:=by
 unfold whenB at h;split at h
 ·rename_i hc
  exact⟨hc,by cases h;rfl⟩
 ·cases h
theorem isIfaceT_und{t:TypeId}(h:isIfaceT P t=true):∃m,P.underlying t=some (.interface m):=by
 unfold isIfaceT at h;split at h<;>simp_all
theorem isFuncT_und{t:TypeId}(h:isFuncT P t=true):∃x y z,P.underlying t=some (.func x y z):=by
 unfold isFuncT at h;split at h<;>simp_all
theorem isSliceT_und{t:TypeId}(h:isSliceT P t=true):∃e,P.underlying t=some (.slice e):=by
 unfold isSliceT at h;split at h<;>simp_all
theorem binOp_equal_eql{t:TypeId}{x y:Value}(h:∀k n,x≠.int k n)(h2:∀s,x≠.string s)(h3:∀k n,x≠.float k n)(h4:∀k n m,x≠.complex k n m):binOp .eql t x y=(do pure (.bool (<-Op.equal t x y))):=by
 cases x<;>first|rfl|exact absurd rfl (h _ _)|exact absurd rfl (h2 _)|exact absurd rfl (h3 _ _)|exact absurd rfl (h4 _ _ _)
theorem binOp_equal_neq{t:TypeId}{x y:Value}(h:∀k n,x≠.int k n)(h2:∀s,x≠.string s)(h3:∀k n,x≠.float k n)(h4:∀k n m,x≠.complex k n m):binOp .neq t x y=(do pure (.bool (!(<-Op.equal t x y)))):=by
 cases x<;>first|rfl|exact absurd rfl (h _ _)|exact absurd rfl (h2 _)|exact absurd rfl (h3 _ _)|exact absurd rfl (h4 _ _ _)
theorem equalIn_nn(d:Nat){t:TypeId}{m:Array (String×TypeId)}(h:P.underlying t=some (.interface m)):(Op.equalIn (d+1) t .nilIface .nilIface).run P w= .ok true w:=by simp[Op.equalIn,run_und h]
theorem equalIn_ni(d:Nat){t u:TypeId}{v:Value}{m:Array (String×TypeId)}(h:P.underlying t=some (.interface m)):(Op.equalIn (d+1) t .nilIface (.iface u v)).run P w= .ok false w:=by simp[Op.equalIn,run_und h]
theorem equalIn_in(d:Nat){t u:TypeId}{v:Value}{m:Array (String×TypeId)}(h:P.underlying t=some (.interface m)):(Op.equalIn (d+1) t (.iface u v) .nilIface).run P w= .ok false w:=by simp[Op.equalIn,run_und h]
theorem equalIn_ff(d:Nat){t:TypeId}{x y:Array TypeId}{z:Bool}(h:P.underlying t=some (.func x y z)):(Op.equalIn (d+1) t .nilFunc .nilFunc).run P w= .ok true w:=by simp[Op.equalIn,run_und h]
theorem equalIn_fg(d:Nat){t:TypeId}{x y:Array TypeId}{z:Bool}{f:Fn}{p q:Array Value}(h:P.underlying t=some (.func x y z)):(Op.equalIn (d+1) t .nilFunc (.func f p q)).run P w= .ok false w:=by simp[Op.equalIn,run_und h]
theorem equalIn_gf(d:Nat){t:TypeId}{x y:Array TypeId}{z:Bool}{f:Fn}{p q:Array Value}(h:P.underlying t=some (.func x y z)):(Op.equalIn (d+1) t (.func f p q) .nilFunc).run P w= .ok false w:=by simp[Op.equalIn,run_und h]
theorem equalIn_ss(d:Nat){t e:TypeId}{n c:Nat}{x:Option Addr}{m k:Nat}(h:P.underlying t=some (.slice e)):(Op.equalIn (d+1) t (.slice none n c) (.slice x m k)).run P w= .ok x.isNone w:=by simp[Op.equalIn,run_und h]
theorem equalIn_st(d:Nat){t e:TypeId}{n c:Nat}{x:Addr}{m k:Nat}(h:P.underlying t=some (.slice e)):(Op.equalIn (d+1) t (.slice (some x) n c) (.slice none m k)).run P w= .ok false w:=by simp[Op.equalIn,run_und h]
theorem eqV_ok{t:TypeId}{x y:Operand}{p q:AV}{pv qv:Value}{r:Bool}(h:eqV P t (isConst x||isConst y) p q=some r)(hp:VR C p pv)(hq:VR C q qv)(op:BinOp)(hop:op= .eql\/op= .neq) :
  (eqGuard op t x y pv qv).run P w= .ok () w/\(Op.equal t pv qv).run P w= .ok r w/\(∀k n,pv≠.int k n)/\(∀s,pv≠.string s)/\(∀k n,pv≠.float k n)/\(∀k n m,pv≠.complex k n m):=by
 have guard:∀(u v:Value),(∀c d,(u,v)≠(.agg c,.agg d))->(u,v)≠(.nilIface,.nilIface)->(eqGuard op t x y u v).run P w= .ok () w:=by
  intro u v h1 h2;rcases hop with rfl|rfl<;>(simp only[eqGuard,Bool.not_true,Bool.false_eq_true,if_false];split)
  ·exact absurd rfl h2
  ·exact absurd rfl (h1 _ _)
  ·rfl
  ·exact absurd rfl h2
  ·exact absurd rfl (h1 _ _)
  ·rfl
 unfold eqV at h;split at h
 ·
  obtain⟨hc,rfl⟩:=whenB_some h;simp only[Bool.and_eq_true]at hc;obtain⟨m,hm⟩:=isIfaceT_und hc.2;cases hp;cases hq;refine⟨?_,equalIn_nn 9999 hm,by simp⟩;have hk:=hc.1;rcases hop with rfl|rfl<;>simp only[eqGuard,Bool.not_true,Bool.false_eq_true,if_false]<;>cases x<;>cases y<;>first|rfl|(simp[isConst]at hk)
 ·obtain⟨hc,rfl⟩:=whenB_some h
  obtain⟨m,hm⟩:=isIfaceT_und hc;cases hp;cases hq;exact⟨guard _ _ (by simp) (by simp),equalIn_ni 9999 hm,by simp⟩
 ·obtain⟨hc,rfl⟩:=whenB_some h
  obtain⟨m,hm⟩:=isIfaceT_und hc;cases hp;cases hq;exact⟨guard _ _ (by simp) (by simp),equalIn_in 9999 hm,by simp⟩
 ·obtain⟨hc,rfl⟩:=whenB_some h
  obtain⟨_,_,_,hm⟩:=isFuncT_und hc;cases hp;cases hq;exact⟨guard _ _ (by simp) (by simp),equalIn_ff 9999 hm,by simp⟩
 ·obtain⟨hc,rfl⟩:=whenB_some h
  obtain⟨_,_,_,hm⟩:=isFuncT_und hc;cases hp;cases hq;exact⟨guard _ _ (by simp) (by simp),equalIn_fg 9999 hm,by simp⟩
 ·obtain⟨hc,rfl⟩:=whenB_some h
  obtain⟨_,_,_,hm⟩:=isFuncT_und hc;cases hp;cases hq;exact⟨guard _ _ (by simp) (by simp),equalIn_gf 9999 hm,by simp⟩
 iterate 7
  ·obtain⟨hc,rfl⟩:=whenB_some h
   obtain⟨m,hm⟩:=isSliceT_und hc;cases hp<;>cases hq;all_goals exact⟨guard _ _ (by simp) (by simp),by first|exact equalIn_ss 9999 hm|exact equalIn_st 9999 hm,by simp⟩
 ·split at h
  ·cases h
  ·rename_i hg
   have e:=eq_ok (w:=w) h hp hq;obtain⟨vx,rfl,_⟩:=hp.agg_inv;obtain⟨vy,rfl,_⟩:=hq.agg_inv;exact⟨run_eqGuard_agg w op t x y vx vy (by simpa using hg),e,by simp⟩
 ·have e:=eq_ok (w:=w) h hp hq
  rw[hp.bool_inv,hq.bool_inv]at *;exact⟨guard _ _ (by simp) (by simp),e,by simp⟩
 ·cases h
theorem bitsV_ok{op:BinOp}{k:IntKind}{x y:Int}{v:AV}(h:bitsV op k x y=some v):∃n,v= .int k n/\(Op.intBits op k x y).run P w= .ok (.int k n) w:=by
 unfold bitsV at h;cases op<;>simp at h<;>subst h<;>exact⟨_,rfl,by simp[Op.intBits]⟩
theorem St.binV(s:St C lam ms F b a w cs){op:BinOp}{t yt:TypeId}{x y:Operand}{v:AV}(h:F.binV2 P op t x y=some v) :
  Runs P w C lam F (do eqGuard op t x y (a.eval x) (a.eval y);Go.binOp op t (a.eval x) (a.eval y)) v:=by
 unfold Fr.binV2 at h;split at h
 ·rename_i p q hp hq
  have rp:=s.opv hp;have rq:=s.opv hq;revert rp rq;generalize a.eval x=xv;generalize a.eval y=yv;intro rp rq;unfold Go.AM.binV at h;split at h
  ·rename_i k1 n1 k2 n2
   rw[rp.int_inv,rq.int_inv];have hg:(eqGuard op t x y (.int k1 n1) (.int k2 n2)).run P w= .ok () w:=by
    unfold eqGuard;split<;>rfl
   split at h
   ·rename_i hk
    by_cases hsh:isShift op=true
    ·cases op<;>simp[isShift]at hsh
     all_goals
      simp only[intOp]at h;split at h
      ·cases h
      ·rename_i hb
       cases h;refine .of ?_ (.int _ _);simp[hg,Go.binOp,Op.shift,hb]
    ·have hk':k1=k2:=by simpa[hsh]using hk
     subst hk';unfold intOp at h;cases op<;>simp only at h
     case shl=>simp[isShift]at hsh
     case shr=>simp[isShift]at hsh
     case quo=>
      split at h
      ·cases h
      ·rename_i hb;cases h;exact .of (by simp[hg,Go.binOp,Op.intDiv,hb]) (.int _ _)
     case rem=>
      split at h
      ·cases h
      ·rename_i hb;cases h;exact .of (by simp[hg,Go.binOp,Op.intDiv,hb]) (.int _ _)
     case and=>obtain⟨n,rfl,e⟩:=bitsV_ok (P:=P) (w:=w) h;exact .of (by simp[hg,Go.binOp,e]) (.int _ _)
     case or=>obtain⟨n,rfl,e⟩:=bitsV_ok (P:=P) (w:=w) h;exact .of (by simp[hg,Go.binOp,e]) (.int _ _)
     case xor=>obtain⟨n,rfl,e⟩:=bitsV_ok (P:=P) (w:=w) h;exact .of (by simp[hg,Go.binOp,e]) (.int _ _)
     case andNot=>obtain⟨n,rfl,e⟩:=bitsV_ok (P:=P) (w:=w) h;exact .of (by simp[hg,Go.binOp,e]) (.int _ _)
     all_goals
      cases h;first
       |exact .of (by simp[hg,Go.binOp,Op.intArith]) (.int _ _)
       |exact .of (by simp[hg,Go.binOp,Op.intCmp]) (.bool _)
   ·cases h
  ·rename_i s1 s2
   rw[rp.str_inv,rq.str_inv];have hg:(eqGuard op t x y (.string ⟨⟨s1⟩⟩) (.string ⟨⟨s2⟩⟩)).run P w= .ok () w:=by
    unfold eqGuard;split<;>rfl
   unfold strOp at h;cases op<;>simp only at h
   case add=>
    split at h
    ·rename_i hl
     cases h;refine .of (u:=.string ⟨⟨s1++s2⟩⟩) ?_ (.str _);have hcat:((⟨⟨s1⟩⟩:ByteArray)++⟨⟨s2⟩⟩)=⟨⟨s1++s2⟩⟩:=by
      apply ByteArray.ext;simp
     simp[hg,Go.binOp,Op.stringOp,hcat,ByteArray.size];omega
    ·cases h
   all_goals first
    |(cases h;done)
    |(cases h;exact .of (by simp[hg,Go.binOp,Op.stringOp,str_toList]) (.bool _))
  ·unfold eqOp at h
   split at h
   ·split at h
    ·rename_i r hr
     cases h;obtain⟨h1,h2,h3,h4,h5,h6⟩:=eqV_ok (w:=w) hr rp rq .eql (.inl rfl);exact .of (by simp[h1,binOp_equal_eql h3 h4 h5 h6,h2]) (.bool _)
    ·cases h
   ·split at h
    ·rename_i r hr
     cases h;obtain⟨h1,h2,h3,h4,h5,h6⟩:=eqV_ok (w:=w) hr rp rq .neq (.inr rfl);exact .of (by simp[h1,binOp_equal_neq h3 h4 h5 h6,h2]) (.bool _)
    ·cases h
   ·cases h
 ·cases h
theorem St.unV(s:St C lam ms F b a w cs){op:UnOp}{x:Operand}{v:AV}(h:F.unV1 op x=some v):Runs P w C lam F (Op.unary op (a.eval x)) v:=by
 unfold Fr.unV1 at h;split at h
 ·rename_i p hp
  have rp:=s.opv hp;unfold Go.AM.unV at h;split at h
  ·cases h
   rw[rp.int_inv];exact .of (by simp[Op.unary,Op.intArith]) (.int _ _)
  ·rw[rp.int_inv]
   obtain⟨n,rfl,e⟩:=bitsV_ok (P:=P) (w:=w) h;exact .of (by simp[Op.unary,e]) (.int _ _)
  ·cases h
   rw[rp.bool_inv];exact .of (by simp[Op.unary]) (.bool _)
  ·cases h
 ·cases h
theorem bytesOf_ints:∀{l:List AV} {bs:List UInt8},bytesOf l=some bs->∃ns:List Int,l=ns.map (AV.int .u8)/\bs=ns.map fun n=>UInt8.ofNat n.toNat:=by
 intro l;induction l with
 |nil=>intro bs h;cases h;exact⟨[],rfl,rfl⟩
 | cons x l ih =>
  intro bs h;unfold bytesOf at h;split at h
  ·rename_i h0;cases h0
  ·rename_i n r h0
   cases h0;split at h
   ·rename_i l' hl
    cases h;obtain⟨ns,rfl,rfl⟩:=ih hl;exact⟨n::ns,rfl,rfl⟩
   ·cases h
  ·cases h
theorem isU8_und{P:Program}{e:TypeId}(h:isU8 P e=true):P.underlying e=some (.int .u8):=by
 unfold isU8 at h;split at h
 ·assumption
 ·cases h
theorem run_bytes{P:Program}{C:Cfg}{w:World}{B O cap:Nat}{l:List AV}{bs:List UInt8}(hb:bytesOf l=some bs)(h:∀k x,l[k]? =some x->∃v,w.cell? ⟨B,O+k,none⟩=some v/\VR C x v) :
  (Conv.bytesToString (.slice (some ⟨B,O,none⟩) l.length cap)).run P w= .ok (.string ⟨⟨bs⟩⟩) w:=by
 obtain⟨ns,rfl,rfl⟩:=bytesOf_ints hb;obtain⟨vs,h1,h2⟩:=run_loadCells (P:=P) (cells:=ns.map (AV.int .u8)) (n:=(ns.map (AV.int .u8)).length) (fun k x _ hx=>h k x hx) (Nat.le_refl _);rw[List.take_length]at h2;have hvs:vs=(ns.map (Value.int .u8)).toArray:=by
  apply Array.ext
  ·rw[h2.1];simp
  ·intro i q1 q2
   have hi:i<ns.length:=by simpa using q2
   have:=h2.2 i (by simpa using hi);have e1:(ns.map (AV.int .u8)).getD i .junk= .int .u8 ns[i]:=by simp[List.getD,hi]
   rw[e1]at this;have e2:=this.int_inv;simp only[Array.getD,q1,dif_pos]at e2;simp only[List.getElem_toArray,List.getElem_map];exact e2
 rw[hvs]at h1;rw[run_bytesToString w _ _ cap ns h1,foldl_push_bytes];simp[ByteArray.empty,ByteArray.emptyWithCapacity];rfl
theorem St.bytes(s:St C lam ms F b a w cs){y:AV}{yv:Value}{l:List AV}{bs:List UInt8}(r:VR C y yv)(h:F.hp.elems y=some l)(hb:bytesOf l=some bs):∃p n k,yv= .slice p n k/\(Conv.bytesToString yv).run P w= .ok (.string ⟨⟨bs⟩⟩) w:=by
 have nil:∀p k,l=[]->yv= .slice p 0 k->∃p n k,yv= .slice p n k/\(Conv.bytesToString yv).run P w= .ok (.string ⟨⟨bs⟩⟩) w:=fun p k e1 e2=>by
  subst e1 e2;cases hb;refine⟨p,0,k,rfl,?_⟩;cases p with
  |none=>simp[Conv.bytesToString];rfl
  |some p=>simp[Conv.bytesToString,loadCells,loadCellsFrom];rfl
 have hone:∀e∈l,∃n,e= .int .u8 n:=fun e he=>by
  obtain⟨ns,rfl,_⟩:=bytesOf_ints hb;obtain⟨n,_,rfl⟩:=List.mem_map.1 he;exact⟨n,rfl⟩
 unfold Heap.elems at h;split at h
 ·cases h;cases r;exact nil _ _ rfl rfl
 ·cases h;cases r;exact nil _ _ rfl rfl
 ·have h:=(Option.some.inj h).symm
  subst h;cases r with
  |vslice0=>exact nil _ _ rfl rfl
  | vslice vs k1 k2 k3 k4 k5 =>
   rename_i sz b' o' cap;refine⟨_,_,_,rfl,run_bytes (C:=C) hb fun k x hk=>?_⟩;have hlt:k<l.length:=by
    rcases Nat.lt_or_ge k l.length with h' |h'
    ·exact h'
    ·rw[List.getElem?_eq_none h']at hk;cases hk
   obtain⟨n,hn⟩:=hone x (List.mem_of_getElem? hk);have e1:sz=1:=by
    have:=k2 x (List.mem_of_getElem? hk);rw[hn]at this;exact this.symm
   subst e1;have hs:=s.wr.sig _ _ (k3 k 0 hlt (by omega));have hv:=k4 k 0 hlt (by omega);have g1:l.getD k .junk=x:=by simp[List.getD,hk]
   rw[g1]at hv;refine⟨_,by simpa using hs,?_⟩;rw[hn]at hv ⊢;exact hv
 ·rename_i id off len
  split at h
  ·rename_i sz el hg
   split at h
   ·rename_i hle
    have h:=Option.some.inj h;obtain⟨L,e1,c,f1,f2,f3,f4,f5⟩:=s.wr.blk id _ hg;cases r with
    | row A e2 k1 k2 k3 =>
     rw[e1]at e2;cases e2;rename_i cap;have hlen:l.length=len:=by rw[<-h];simp;omega
     rcases k2 with rfl|rfl
     ·have hl0:len=0:=by omega
      subst hl0;exact nil _ _ (List.length_eq_zero_iff.1 hlen) rfl
     ·refine⟨_,_,_,rfl,?_⟩
      rw[<-hlen];refine run_bytes (C:=C) hb fun k x hk=>?_;obtain⟨n,hn⟩:=hone x (List.mem_of_getElem? hk);rw[<-h,List.getElem?_take]at hk;split at hk
      ·rw[List.getElem?_drop]at hk
       obtain⟨q1,q2,q3⟩:=f5 (off+k) x hk;have hsz:sz=1:=by rw[hn]at q1;exact q1.symm
       obtain⟨v,hv,hr⟩:=q3 0 x (by rw[hn];rfl);refine⟨v,(f1.cell _).trans ?_,hr⟩;rw[<-hv,f2,hsz]
       congr 1
       omega
      ·cases hk
   ·cases h
  ·cases h
 ·cases h
theorem St.convV(s:St C lam ms F b a w cs){t u:TypeId}{x:Operand}{v:AV}(h:F.convV1 P t u x=some v):Runs P w C lam F (convert t u (a.eval x)) v:=by
 unfold Fr.convV1 at h;split at h
 ·rename_i p hp
  have rp:=s.opv hp;split at h
  ·rename_i v' h'
   cases h;have h:=h';unfold Go.AM.convV at h;split at h
   ·rename_i k1 k2 k3 n h1 h2
    cases h;rw[rp.int_inv];exact .of (by simp[convert,run_und h1,run_und h2,Conv.intToInt]) (.int _ _)
   ·rename_i s1 h1 h2
    cases h;rw[rp.str_inv];exact .of (by simp[convert,run_und h1,run_und h2]) (.str _)
   ·cases h
  ·unfold strV at h
   split at h
   ·rename_i e h1 h2
    split at h
    ·rename_i hu
     split at h
     ·rename_i l hl
      split at h
      ·rename_i bs hbs
       cases h;obtain⟨q,n,k,e1,e2⟩:=s.bytes (P:=P) rp hl hbs;rw[e1]at e2 ⊢;exact .of (by rw[run_convert_bytes_string w t u e q n k h1 (isU8_und hu) h2];exact e2) (.str _)
      ·cases h
     ·cases h
    ·cases h
   ·cases h
 ·cases h
theorem St.ifaceV(s:St C lam ms F b a w cs){t:TypeId}{x:Operand}{v:AV}(h:F.ifaceV P t x=some v):Runs P w C lam F (Instr.makeInterface t (a.eval x)) v:=by
 unfold Fr.ifaceV at h;split at h
 ·cases h
 ·rename_i d p hn hd hp
  cases h;refine .of ?_ (.iface (s.opv hp));simp only[Instr.makeInterface,Sem.run_bind,run_und hd,Result.andThen_ok]
  try cases d<;>first|rfl|(exfalso;exact hn _ _ rfl)
 ·cases h
theorem opvs_arr(s:St C lam ms F b a w cs){l:Array Operand}{vs:List AV}(h:F.opvs l.toList=some vs):VRs C vs (l.map a.eval):=by
 have:=s.opvs _ _ h;simpa using this
theorem St.funcV(s:St C lam ms F b a w cs){fn:Fn}{x y:Array Operand}{v:AV}(h:F.funcV fn x.toList y.toList=some v):Runs P w C lam F (Instr.makeFunc fn (x.map a.eval) (y.map a.eval)) v:=by
 unfold Fr.funcV at h;split at h
 ·rename_i f p q hp hq
  cases h;have r1:=opvs_arr s hp;have r2:=opvs_arr s hq;exact .of rfl (.func r1.1 r1.2 r2.1 r2.2)
 ·cases h
theorem St.pickV(s:St C lam ms F b a w cs){c x y:Operand}{v:AV}(h:F.pickV c x y=some v):Runs P w C lam F (do pure (if <-asBool (a.eval c)then a.eval x else a.eval y)) v:=by
 unfold Fr.pickV at h;split at h
 ·rename_i p q h1 h2 h3
  cases h;rw[(s.opv h1).bool_inv];exact .of (by simp[asBool]) (s.opv h2)
 ·rename_i p q h1 h2 h3
  cases h;rw[(s.opv h1).bool_inv];exact .of (by simp[asBool]) (s.opv h3)
 ·cases h
theorem St.loadV(s:St C lam ms F b a w cs){t:TypeId}{x:Operand}{v:AV}(h:F.loadV P t x=some v):Runs P w C lam F (Instr.loadAt t (a.eval x)) v:=by
 unfold Fr.loadV at h;split at h
 ·rename_i p hp
  split at h
  ·rename_i cells off hm
   obtain⟨B,O,e,hr⟩:=s.mem (s.opd hp) hm;obtain⟨u,h1,h2⟩:=run_loadVar (P:=P) (w:=w) (C:=C) (B:=B) (O:=O) hr h;rw[e];exact .of (by simp[Instr.loadAt,Instr.sureAddr,h1]) h2
  ·cases h
 ·cases h
theorem addr_add(B O n:Nat):(⟨B,O,none⟩:Addr).add n=⟨B,O+n,none⟩:=by
 unfold Addr.add;split<;>simp_all
theorem ptrAdd_ok{p q:AV}{n:Nat}{pv:Value}(hp:SR C lam F.lm p pv)(h:ptrAdd p n=some q) :
  ∃B O,pv= .pointer (some ⟨B,O,none⟩)/\SR C lam F.lm q (.pointer (some ⟨B,O+n,none⟩)):=by
 cases p with
 |lptr t g o=>
  simp[ptrAdd]at h;subst h;obtain⟨g',cells,β,h1,h2,h3,h4⟩:=hp;exact⟨β,o,h3,g',cells,β,h1,h2,rfl,h4⟩
 |ptr id o=>
  simp[ptrAdd]at h;subst h;cases hp with
  |ptr e=>exact⟨_,_,rfl,by rw[Nat.add_assoc];exact VR.ptr e⟩
 |eptr id sz i j=>
  simp[ptrAdd]at h;subst h;cases hp with
  |eptr e=>exact⟨_,_,rfl,by rw[Nat.add_assoc];exact VR.eptr e⟩
 | vptr cells =>
  simp[ptrAdd]at h;obtain⟨hle,rfl⟩:=h;cases hp with
  | vptr vs k1 k2 k3 =>
   refine⟨_,_,rfl,VR.vptr (fun k=>vs (n+k)) (fun k hk=>?_) (fun k hk=>?_) fun c hc=>k3 c (List.mem_of_mem_drop hc)⟩
   ·simp at hk
    have:=k1 (n+k) (by omega)
    rwa [<-Nat.add_assoc]at this
   ·simp at hk
    have:=k2 (n+k) (by omega);simpa[List.getD,List.getElem?_drop]using this
 |_=>simp[ptrAdd]at h
end
end Go.AM
namespace Go.AM
open Go
variable[Keep]
section
variable{P:Program}{w:World}{C:Cfg}{lam:Nat->Option Nat}{ms:List Nat}{F:Fr}{b:Frame}{a:Act}{cs:List Frame}
theorem fieldOf_ok{t ft:TypeId}{f off:Nat}(h:fieldOf P t f=some (ft,off)):∃fs fd,P.underlying t=some (.struct fs)/\fs[f]? =some fd/\fd.type=ft/\fd.offset=off:=by
 unfold fieldOf at h;split at h
 ·rename_i fs hu
  split at h
  ·rename_i fd hf
   cases h;exact⟨fs,fd,hu,hf,rfl,rfl⟩
  ·cases h
 ·cases h
theorem szT_ok{t:TypeId}(h:szT P t≠0):(sizeOf t).run P w= .ok (szT P t) w:=by
 unfold szT at h ⊢;split at h
 ·rename_i i hi
  simp[sizeOf,run_info hi,hi]
 ·exact absurd rfl h
theorem St.fieldAddrV(s:St C lam ms F b a w cs){t:TypeId}{x:Operand}{f:Nat}{v:AV}(h:F.fieldAddrV P t x f=some v):Runs P w C lam F (Instr.fieldAt t (a.eval x) f) v:=by
 unfold Fr.fieldAddrV at h;split at h
 ·rename_i p ft off hp hf
  split at h
  ·cases h
  ·rename_i hz
   obtain⟨fs,fd,h1,h2,rfl,rfl⟩:=fieldOf_ok hf;obtain⟨B,O,e,r⟩:=ptrAdd_ok (s.opd hp) h;rw[e];refine⟨_,?_,r⟩;simp only[Instr.fieldAt,Sem.run_bind,run_und h1,Result.andThen_ok,h2,Instr.sureAddr,Sem.run_pure,fieldPlace,szT_ok hz];rw[if_neg hz];simp[addr_add]
 ·cases h
theorem St.fieldV(s:St C lam ms F b a w cs){t:TypeId}{x:Operand}{f:Nat}{v:AV}(h:F.fieldV P t x f=some v):Runs P w C lam F (Instr.field t (a.eval x) f) v:=by
 unfold Fr.fieldV at h;split at h
 ·rename_i l ft off hp hf
  obtain⟨fs,fd,h1,h2,rfl,rfl⟩:=fieldOf_ok hf;obtain⟨vs,e,r,o⟩:=(s.opv hp).agg_inv;obtain⟨u,k1,k2⟩:=run_part (P:=P) (w:=w) r o h;rw[e];exact .of (by simp[Instr.field,run_und h1,h2,asAgg,k1]) k2
 ·cases h
theorem idxV_ok{x:AV}{n k:Nat}{v:Value}(h:idxV x n=some k)(r:VR C x v):∃kd i,v= .int kd i/\0 <=i/\i<(n:Int)/\i.toNat=k:=by
 unfold idxV at h;split at h
 ·rename_i kd i
  split at h
  ·rename_i hi
   cases h;exact⟨kd,i,r.int_inv,hi.1,hi.2,rfl⟩
  ·cases h
 ·cases h
theorem St.indexAddrV (s : St C lam ms F b a w cs) {t : TypeId} {x i : Operand} {v : AV} (h : F.indexAddrV1 P t x i = some v) : Runs P w C lam F (Instr.indexAt t (a.eval x) (a.eval i)) v := by
 unfold Fr.indexAddrV1 at h;split at h
 ·rename_i p q hp hq
  have rp:=s.opd hp;have rq:=s.opv hq;revert rp rq;generalize a.eval x=xv;generalize a.eval i=iv;intro rp rq;unfold Go.AM.indexAddrV at h;split at h
  ·rename_i n e hu
   split at h
   ·rename_i k ag m hk hl
    obtain⟨kd,j,rfl,h0,h1,rfl⟩:=idxV_ok hk rq;obtain⟨B,O,rfl,r⟩:=ptrAdd_ok rp h;obtain⟨_,k2,_⟩:=run_lay (w:=w) hl;refine⟨_,?_,r⟩;simp[Instr.indexAt,asIntOf,run_und hu,Instr.sureAddr,h0,h1,k2,addr_add]
   ·cases h
  ·rename_i e hu
   split at h
   ·rename_i ag m hl
    obtain⟨_,k2,_⟩:=run_lay (w:=w) hl;split at h
    ·rename_i l
     split at h
     ·rename_i k hk
      obtain⟨kd,j,rfl,h0,h1,rfl⟩:=idxV_ok hk rq;split at h
      ·rename_i el hel
       split at h
       ·rename_i hm
        cases h;have hlt:j.toNat<l.length:=by omega
        cases rp with
        |vslice0 a0 cap=>simp at hlt
        | @vslice _ sz B O cap vs g1 g2 g3 g4 g5 =>
         have hel':l.getD j.toNat .junk=el:=by simp[List.getD,hel]
         have hmem:=List.mem_of_getElem? hel;have hsz:el.cells.length=sz:=g2 el hmem;subst hm;refine⟨.pointer (some ⟨B,O+j.toNat * sz,none⟩),?_,?_⟩
         ·have h1':j<(l.length:Int):=h1
          simp[Instr.indexAt,asIntOf,run_und hu,h0,h1',k2,addr_add,hsz]
         ·exact VR.vptr (fun k=>vs j.toNat k) (fun k hk=>g3 _ _ hlt (by omega)) (fun k hk=>by have:=g4 j.toNat k hlt (by omega);rwa [hel']at this) (g5 el hmem)
       ·cases h
      ·cases h
     ·cases h
    ·rename_i id off len
     split at h
     ·rename_i k sz el hk hg
      obtain⟨kd,j,rfl,h0,h1,rfl⟩:=idxV_ok hk rq;split at h
      ·rename_i hm
       cases h;subst hm;cases rp with
       | @row _ _ _ cap L a0 e1 e2 e3 e4 =>
        obtain⟨L',f1,c,f2,f3,f4,f5,f6⟩:=s.wr.blk id _ hg;rw[e1]at f1;cases f1;have hc:cap≠0:=by omega
        rcases e3 with e3|e3
        ·exact absurd e3 hc
        ·subst e3
         refine⟨.pointer (some ⟨L.b,L.o+off * L.sz+j.toNat * sz,none⟩),?_,?_⟩
         ·simp[Instr.indexAt,asIntOf,run_und hu,h0,h1,k2,addr_add]
         ·have:=VR.eptr (C:=C) (sz:=sz) (i:=off+j.toNat) (j:=0) e1
          rw[Nat.add_mul,Nat.add_zero,<-Nat.add_assoc]at this;rw[f3];exact this
      ·cases h
     ·cases h
    ·cases h
   ·cases h
  ·cases h
 ·cases h
theorem St.indexV(s:St C lam ms F b a w cs){t:TypeId}{x i:Operand}{v:AV}(h:F.indexV1 P t x i=some v):Runs P w C lam F (Instr.index t (a.eval x) (a.eval i)) v:=by
 unfold Fr.indexV1 at h;split at h
 ·rename_i p q hp hq
  have rp:=s.opv hp;have rq:=s.opv hq;revert rp rq;generalize a.eval x=xv;generalize a.eval i=iv;intro rp rq;unfold Go.AM.indexV at h;split at h
  ·rename_i n e l hu
   split at h
   ·rename_i k hk
    obtain⟨kd,j,rfl,h0,h1,rfl⟩:=idxV_ok hk rq;split at h
    ·rename_i ag m hl
     obtain⟨_,k2,_⟩:=run_lay (w:=w) hl;obtain⟨vs,rfl,r,o⟩:=rp.agg_inv;obtain⟨u,u1,u2⟩:=run_part (P:=P) (w:=w) (t:=e) (off:=j.toNat * m) r o (by unfold readT;rw[hl];exact h);exact .of (by simp[Instr.index,asIntOf,run_und hu,h0,h1,k2,u1]) u2
    ·cases h
   ·cases h
  ·rename_i st hu
   split at h
   ·rename_i k hk
    obtain⟨kd,j,rfl,h0,h1,rfl⟩:=idxV_ok hk rq;split at h
    ·rename_i c hc
     cases h;rw[rp.str_inv];have hlt:j.toNat<st.length:=by omega
     have hb:(⟨⟨st⟩⟩:ByteArray)[j.toNat]? =some c:=by
      rw[ByteArray.getElem?_lt' _ _ (by simpa[ByteArray.size]using hlt)]
      congr 1
      have:=List.getElem?_eq_getElem hlt;rw[hc]at this;cases this;rfl
     exact .of (by simp[Instr.index,asIntOf,run_und hu,h0,hb]) (.int _ _)
    ·cases h
   ·cases h
  ·cases h
 ·cases h
theorem St.extractV(s:St C lam ms F b a w cs){x:Operand}{i:Nat}{v:AV}(h:F.extractV x i=some v):Runs P w C lam F (Instr.extract (a.eval x) i) v:=by
 unfold Fr.extractV at h;split at h
 ·rename_i l hp
  have rp:=s.opv hp;revert rp;generalize a.eval x=xv;intro rp;cases rp with
  |tuple h1 h2=>
   obtain⟨u,hu,r⟩:=VRs.get ⟨h1,h2⟩ h;exact .of (by simp[Instr.extract,hu]) r
 ·cases h
theorem tupleR{x y:AV}{u v:Value}(h:VR C x u)(k:VR C y v):VR C (.tuple [x,y]) (.tuple #[u,v]):=by
 have:=VRs.cons h (VRs.cons k (VRs.nil C));exact .tuple (by simp) (fun i hi=>by simpa using this.2 i hi)
theorem St.assertV (s : St C lam ms F b a w cs) {x : Operand} {xt t : TypeId} {ok : Bool} {v : AV} (h : F.assertV1 P x t ok = some v) : Runs P w C lam F (Instr.typeAssert (a.eval x) xt t ok) v := by
 unfold Fr.assertV1 at h;split at h
 ·rename_i p hp
  have rp:=s.opv hp;revert rp;generalize a.eval x=xv;intro rp;unfold Go.AM.assertV at h;split at h
  ·cases h
  ·cases h
  ·rename_i hni hnn
   obtain⟨d,hd⟩:∃d,P.underlying t=some d:=by
    cases hu:P.underlying t with
    |none=>exact absurd hu hnn
    |some d=>exact⟨d,rfl⟩
   have hdi:∀m,d≠.interface m:=fun m e=>hni m (by rw[hd,e]);split at h
   ·rename_i u p
    cases rp with
    | iface rv =>
     split at h
     ·rename_i hut
      cases h;subst hut;cases ok with
      |true=>exact .of (by cases d<;>first|(exact absurd rfl (hdi _))|simp[Instr.typeAssert,run_und hd]) (tupleR rv (.bool true))
      |false=>exact .of (by cases d<;>first|(exact absurd rfl (hdi _))|simp[Instr.typeAssert,run_und hd]) rv
     ·rename_i hut
      split at h
      ·rename_i hok
       split at h
       ·rename_i z hz
        cases h;obtain⟨zv,z1,z2,_⟩:=run_zero (P:=P) (w:=w) (C:=C) hz;subst hok;exact .of (by cases d<;>first|(exact absurd rfl (hdi _))|simp[Instr.typeAssert,run_und hd,hut,z1]) (tupleR z2 (.bool false))
       ·cases h
      ·cases h
   ·cases rp
    split at h
    ·rename_i hok
     split at h
     ·rename_i z hz
      cases h;obtain⟨zv,z1,z2,_⟩:=run_zero (P:=P) (w:=w) (C:=C) hz;subst hok;exact .of (by cases d<;>first|(exact absurd rfl (hdi _))|simp[Instr.typeAssert,run_und hd,z1]) (tupleR z2 (.bool false))
     ·cases h
    ·cases h
   ·cases h
 ·cases h
end
end Go.AM
namespace Go.AM
open Go
variable[Keep]
section
variable{P:Program}{w:World}{C:Cfg}{lam:Nat->Option Nat}{ms:List Nat}{F:Fr}{b:Frame}{a:Act}{cs:List Frame}
theorem bound_ok(s:St C lam ms F b a w cs){o:Operand}{dflt n k:Nat}{code:BoundsCode}(h:boundV (some (F.opv o)) dflt n=some k):(Instr.sliceBound (a.eval o) n code).run P w= .ok k w/\k <=n:=by
 unfold boundV at h;split at h
 ·rename_i e;cases e
 ·rename_i kd i e
  split at h
  ·rename_i hi
   cases h;have e':F.opv o=some (.int kd i):=by simpa using e
   rw[(s.opv e').int_inv];exact⟨by simp[Instr.sliceBound,asIntOf,hi],by omega⟩
  ·cases h
 ·cases h
theorem bounds_ok(s:St C lam ms F b a w cs){lo hi mx:Option Operand}{n cap l h:Nat}{top isS:Bool}(hc:n <=cap)(hs:mx=none->hi=none->True)(hb:boundsV n (lo.map F.opv) (hi.map F.opv) (mx.map F.opv)=some (l,h,top)) :
  ∃m,(Instr.sliceBounds isS n cap (lo.map a.eval) (hi.map a.eval) (mx.map a.eval)).run P w= .ok (l,h,m) w/\l <=h/\h <=n/\h <=m/\m <=cap/\(top=true->m=l)/\(top=false->mx≠none->m≠l):=by
 unfold boundsV at hb;have low:∀(h':Nat) (code:BoundsCode),boundV (lo.map F.opv) 0 h'=some l->(match (lo.map a.eval:Option Value)with|some v=>Instr.sliceBound v h' code|none=>pure 0).run P w= .ok l w/\l <=h':=by
  intro h' code e;cases lo with
  |none=>simp[boundV]at e;subst e;exact⟨rfl,Nat.zero_le _⟩
  |some o=>simpa using bound_ok s e
 cases mx with
 | none =>
  simp only[Option.map_none]at hb;cases hh:boundV (hi.map F.opv) n n with
  |none=>simp[hh]at hb
  | some h' =>
   simp only[hh]at hb;cases hl:boundV (lo.map F.opv) 0 h' with
   |none=>simp[hl]at hb
   | some l' =>
    simp only[hl]at hb;cases hb;obtain⟨l1,l2⟩:=low h (if false then BoundsCode.slice3C else .sliceB) hl
    cases hi with
    |none=>
     simp[boundV]at hh;subst hh;refine⟨cap,?_,l2,Nat.le_refl _,hc,Nat.le_refl _,by simp,by simp⟩;simp only[Instr.sliceBounds,Option.map_none,Sem.run_bind,Sem.run_pure,Result.andThen_ok,Option.isSome_none,Bool.false_eq_true,if_false];simp only[Bool.false_eq_true,if_false]at l1;cases lo with
     |none=>simpa using l1
     |some lo=>simp only[Option.map_some]at l1 ⊢;simp[l1]
    | some o =>
     have hh':boundV (some (F.opv o)) n cap=some h:=by
      unfold boundV at hh ⊢;simp only[Option.map_some]at hh;split at hh<;>simp_all;omega
     obtain⟨h1,_⟩:=bound_ok (P:=P) s (code:=if isS then .sliceAcap else .sliceAlen) hh'
     obtain⟨_,h2⟩:=bound_ok (P:=P) s (code:=.sliceB) hh;refine⟨cap,?_,l2,h2,Nat.le_trans h2 hc,Nat.le_refl _,by simp,by simp⟩;simp only[Instr.sliceBounds,Option.map_none,Option.map_some,Sem.run_bind,Sem.run_pure,Result.andThen_ok,h1,Option.isSome_none,Bool.false_eq_true,if_false];simp only[Bool.false_eq_true,if_false]at l1;cases lo with
     |none=>simpa using l1
     |some lo=>simp only[Option.map_some]at l1 ⊢;simp[l1]
 | some mo =>
  simp only[Option.map_some]at hb;cases hm:boundV (some (F.opv mo)) 0 n with
  |none=>simp[hm]at hb
  | some m =>
   simp only[hm]at hb;cases hi with
   |none=>simp at hb
   | some o =>
    simp only[Option.map_some]at hb;cases hh:boundV (some (F.opv o)) 0 m with
    |none=>simp[hh]at hb
    | some h' =>
     simp only[hh]at hb;cases hl:boundV (lo.map F.opv) 0 h' with
     |none=>simp[hl]at hb
     | some l' =>
      simp only[hl]at hb;cases hb;have hm':boundV (some (F.opv mo)) 0 cap=some m:=by
       unfold boundV at hm ⊢;split at hm<;>simp_all;omega
      obtain⟨m1,_⟩:=bound_ok (P:=P) s (code:=if isS then .slice3Acap else .slice3Alen) hm'
      obtain⟨_,m2⟩:=bound_ok (P:=P) s (code:=.slice3C) hm;obtain⟨h1,h2⟩:=bound_ok (P:=P) s (code:=.slice3B) hh;obtain⟨l1,l2⟩:=low h .slice3C hl;refine⟨m,?_,l2,Nat.le_trans h2 m2,h2,Nat.le_trans m2 hc,fun e=>(of_decide_eq_true e).symm,fun e _ e2=>(of_decide_eq_false e) e2.symm⟩;simp only[Instr.sliceBounds,Option.map_some,Sem.run_bind,Sem.run_pure,Result.andThen_ok,m1,h1,Option.isSome_some,if_true];cases lo with
      |none=>simpa using l1
      |some lo=>simp only[Option.map_some]at l1 ⊢;simp[l1]
theorem lenS_ok{x:AV}{n:Nat}{v:Value}(h:lenS x=some n)(r:VR C x v):∃p cap,v= .slice p n cap/\n <=cap:=by
 cases r<;>simp[lenS]at h<;>subst h
 ·exact⟨_,_,rfl,Nat.le_refl _⟩
 ·exact⟨_,_,rfl,‹_›⟩
 ·exact⟨_,_,rfl,Nat.zero_le _⟩
 ·exact⟨_,_,rfl,Nat.le_refl _⟩
 ·exact⟨_,_,rfl,‹_›⟩
theorem bytes_extract(s:List UInt8)(l h:Nat):(⟨⟨s⟩⟩:ByteArray).extract l h=⟨⟨(s.take h).drop l⟩⟩:=by
 apply ByteArray.ext;apply Array.toList_inj.1;simp[List.drop_take]
theorem headOk_ok{m sz:Nat}{l:List AV}(h:headOk m l=true)(hz:∀e∈l,e.cells.length=sz)(hne:l≠[]):sz=m:=by
 cases l with
 |nil=>exact absurd rfl hne
 |cons v r=>simp[headOk]at h;rw[<-hz v (by simp)];exact h
theorem sliceAt_str{t:TypeId}{x:Value}{lo hi mx:Option Value}(h:P.underlying t=some .string):(Instr.sliceAt t x lo hi mx).run P w=(Instr.slice t x lo hi mx).run P w:=by simp[Instr.sliceAt,run_und h]
theorem sliceAt_slice{t e:TypeId}{x:Value}{lo hi mx:Option Value}(h:P.underlying t=some (.slice e)):(Instr.sliceAt t x lo hi mx).run P w=(Instr.slice t x lo hi mx).run P w:=by simp[Instr.sliceAt,run_und h]
theorem St.sliceV (s : St C lam ms F b a w cs) {t : TypeId} {x : Operand} {lo hi mx : Option Operand} {v : AV} (hx : F.sliceV1 P t x lo hi mx = some v) :
  Runs P w C lam F (Instr.sliceAt t (a.eval x) (lo.map a.eval) (hi.map a.eval) (mx.map a.eval)) v:=by
 unfold Fr.sliceV1 at hx;split at hx
 ·rename_i p hp
  have rp:=s.opv hp;revert rp;generalize a.eval x=xv;intro rp;unfold Go.AM.sliceV at hx;split at hx
  ·rename_i hu
   split at hx
   ·rename_i st hmx
    have hmn:mx=none:=by cases mx<;>simp_all
    subst hmn;unfold strCut at hx;split at hx
    ·rename_i l h top hb
     cases hx;obtain⟨m,h1,_⟩:=bounds_ok (P:=P) (isS:=false) s (Nat.le_refl _) (fun _ _=>trivial) (mx:=none) hb;rw[rp.str_inv];refine .of (u:=.string ⟨⟨(st.take h).drop l⟩⟩) ?_ (.str _);rw[sliceAt_str hu];simp only[Option.map_none]at h1;have hsz:(⟨⟨st⟩⟩:ByteArray).size=st.length:=rfl;simp only[Instr.slice,Sem.run_bind,run_und hu,Result.andThen_ok,Option.map_none,Option.isSome_none,Bool.false_eq_true,if_false,hsz,h1,Sem.run_pure,bytes_extract]
    ·cases hx
   ·cases hx
  ·rename_i e hu
   split at hx
   ·rename_i ag m n hl hn
    obtain⟨_,k2,_⟩:=run_lay (w:=w) hl;split at hx
    ·rename_i l h top hb
     obtain⟨pa,cap,rfl,hcap⟩:=lenS_ok hn rp;obtain⟨mm,h1,h2,h3,h4,h5,h6,h7⟩:=bounds_ok (P:=P) (isS:=true) s hcap (fun _ _=>trivial) hb;have hrun:(Instr.sliceAt t (.slice pa n cap) (lo.map a.eval) (hi.map a.eval) (mx.map a.eval)).run P w= .ok (.slice (if mm=l then pa else pa.map (·.add (l * m))) (h - l) (mm - l)) w:=by
      rw[sliceAt_slice hu];simp only[Instr.slice,Sem.run_bind,run_und hu,Result.andThen_ok,h1,k2,Sem.run_pure]
     refine⟨_,hrun,?_⟩;unfold cutV at hx;split at hx
     ·cases hx
      cases rp;have:l=0/\h=0/\mm=0:=by omega
      obtain⟨rfl,rfl,rfl⟩:=this;exact SR.of .nilslice
     ·cases hx
      cases rp;have:l=0/\h=0/\mm=0:=by omega
      obtain⟨rfl,rfl,rfl⟩:=this;exact SR.of (.vempty _)
     ·rename_i es
      cases top with
      |true=>
       simp only[if_true]at hx;cases hx;have:=h6 rfl;subst this;have hh:h=mm:=by omega
       subst hh;simp only[if_true,Nat.sub_self];cases rp<;>exact SR.of (.vempty _)
      | false =>
       simp only[Bool.false_eq_true,if_false]at hx;split at hx
       ·rename_i hk
        cases hx;have hlen:((es.take h).drop l).length=h - l:=by
         have:n=es.length:=by simpa[lenS]using hn.symm
         simp;omega
        cases rp with
        |vslice0 a0 _=>
         simp at hlen;have e0:h - l=0:=by omega
         rw[e0];refine SR.of ?_;simp only[List.take_nil,List.drop_nil];split<;>exact .vslice0 _ _
        | @vslice _ sz B O _ vs g1 g2 g3 g4 g5 =>
         by_cases hemp:h=l
         ·have e0:(es.take h).drop l=[]:=by
           apply List.eq_nil_of_length_eq_zero;rw[hlen];omega
          rw[e0,show h - l=0 from by omega];refine SR.of ?_;split<;>exact .vslice0 _ _
         ·have hne:es≠[]:=by
           intro e0;subst e0;simp at h3;omega
          have hszm:sz=m:=headOk_ok hk g2 hne;subst hszm;rw[if_neg (by omega),<-hlen];simp only[Option.map_some,addr_add];refine SR.of (.vslice (fun i j=>vs (l+i) j) (by omega) (fun e he=>g2 e (List.mem_of_mem_take (List.mem_of_mem_drop he))) (fun i j hi hj=>?_) (fun i j hi hj=>?_) (fun e he=>g5 e (List.mem_of_mem_take (List.mem_of_mem_drop he))))
          ·have:=g3 (l+i) j (by omega) hj
           rwa [Nat.add_mul,<-Nat.add_assoc]at this
          ·have:=g4 (l+i) j (by omega) hj
           have e1:((es.take h).drop l).getD i .junk=es.getD (l+i) .junk:=by
            have:l+i<h:=by omega
            simp[List.getD,List.getElem?_drop,List.getElem?_take,this]
           rw[e1];exact this
       ·cases hx
     ·rename_i id off len
      cases top with
      |true=>
       simp only[if_true]at hx;cases hx;have:=h6 rfl;subst this;have hh:h=mm:=by omega
       subst hh;simp only[if_true,Nat.sub_self];cases rp;exact SR.of (.vempty _)
      | false =>
       simp only[Bool.false_eq_true,if_false]at hx;split at hx
       ·rename_i sz el hg
        split at hx
        ·rename_i hm
         cases hx;subst hm;cases rp with
         | @row _ _ _ _ L a0 e1 e2 e3 e4 =>
          obtain⟨L',f1,c,f2,f3,_⟩:=s.wr.blk id _ hg;rw[e1]at f1;cases f1;by_cases hml:mm=l
          ·rw[if_pos hml]
           subst hml;refine SR.of (VR.row (L:=L) a0 e1 (by omega) (.inl (by omega)) ?_);have:(off+mm+(mm - mm)) * L.sz <=(off+cap) * L.sz:=Nat.mul_le_mul_right _ (by omega);omega
          ·rw[if_neg hml]
           have hc0:cap≠0:=by omega
           rcases e3 with e3|e3
           ·exact absurd e3 hc0
           ·subst e3
            simp only[Option.map_some,addr_add];refine SR.of (VR.row (L:=L) _ e1 (by omega) (.inr ?_) ?_)
            ·rw[<-f3,Nat.add_mul,<-Nat.add_assoc]
            ·have:(off+l+(mm - l)) * L.sz <=(off+cap) * L.sz:=Nat.mul_le_mul_right _ (by omega)
             omega
        ·cases hx
       ·cases hx
     ·cases hx
    ·cases hx
   ·cases hx
  ·cases hx
 ·cases hx
end
end Go.AM
namespace Go.AM
open Go
variable[Keep]
section
variable{P:Program}{w:World}{C:Cfg}{lam:Nat->Option Nat}{ms:List Nat}{F:Fr}{b:Frame}{a:Act}{cs:List Frame}
def checkFieldsM(e:Bool)(d:Nat)(xs:Array Value):List Field->Sem Unit
 | []=>pure ()
 | f :: fs => if f.name ≠ "_" then do
   let v <-part f.type xs f.offset
   Instr.checkKey e d f.type v
   checkFieldsM e d xs fs
  else checkFieldsM e d xs fs
def checkElemsM(e:Bool)(d:Nat)(et:TypeId)(n:Nat)(xs:Array Value):List Nat->Sem Unit
 | []=>pure ()
 | i :: r => do
   let v <-part et xs (i * n)
   Instr.checkKey e d et v
   checkElemsM e d et n xs r
theorem run_checkKey_struct(e:Bool)(d:Nat)(t:TypeId)(xs:Array Value)(fs:Array Field)(ht:P.underlying t=some (.struct fs)):(Instr.checkKey e (d+1) t (.agg xs)).run P w=(checkFieldsM e d xs fs.toList).run P w:=by
 simp only[Instr.checkKey,Sem.run_bind,run_und ht,Result.andThen_ok];rw[<-Array.forIn_toList];generalize fs.toList=l;clear ht;induction l generalizing w with
 |nil=>simp[checkFieldsM]
 | cons f l ih =>
  simp only[List.forIn_cons,checkFieldsM,Sem.run_bind,Sem.run_ite];split
  ·generalize (part f.type xs f.offset).run P w=r1
   cases r1 with
   |ok v w1=>
    simp only[Result.andThen_ok];generalize (Instr.checkKey e d f.type v).run P w1=r2;cases r2 with
    |ok u w2=>simp only[Result.andThen_ok,Sem.run_pure];exact ih (w:=w2)
    |halt x w2=>simp[Result.andThen]
   |halt x w1=>simp[Result.andThen]
  ·simp only[Sem.run_pure,Result.andThen_ok]
   exact ih
theorem run_checkKey_array(e:Bool)(d:Nat)(t et:TypeId)(len n:Nat)(xs:Array Value)(ht:P.underlying t=some (.array len et))(hs:∀w,(sizeOf et).run P w= .ok n w) :
  (Instr.checkKey e (d+1) t (.agg xs)).run P w=(checkElemsM e d et n xs (List.range len)).run P w:=by
 simp only[Instr.checkKey,Sem.run_bind,run_und ht,Result.andThen_ok];rw[Std.Legacy.Range.forIn_eq_forIn_range'];have e1:List.range' (Std.Legacy.Range.mk 0 len 1 (by decide)).start (Std.Legacy.Range.mk 0 len 1 (by decide)).size (Std.Legacy.Range.mk 0 len 1 (by decide)).step=List.range len:=by
  simp[Std.Legacy.Range.size,List.range_eq_range']
 rw[e1];generalize List.range len=l;clear e1;induction l generalizing w with
 |nil=>simp[checkElemsM]
 | cons i l ih =>
  simp only[List.forIn_cons,checkElemsM,Sem.run_bind,hs,Result.andThen_ok];generalize (part et xs (i * n)).run P w=r1;cases r1 with
  |ok v w1=>
   simp only[Result.andThen_ok];generalize (Instr.checkKey e d et v).run P w1=r2;cases r2 with
   |ok u w2=>simp only[Result.andThen_ok,Sem.run_pure];exact ih (w:=w2)
   |halt x w2=>simp[Result.andThen]
  |halt x w1=>simp[Result.andThen]
theorem checkKey_ok (e : Bool) : ∀ (d : Nat) (t : TypeId) (x y : AV), eqT P d t x y = some true -> ∀ (xv : Value), VR C x xv -> ∀ k, (Instr.checkKey e (d + k) t xv).run P w = .ok () w := by
 intro d;induction d with
 |zero=>intro t x y h;simp[eqT]at h
 | succ d ih =>
  intro t x y h xv hx k;rw[show d+1+k=(d+k)+1 from by omega];unfold eqT at h;split at h
  ·rename_i p q ht
   rw[hx.bool_inv];simp[Instr.checkKey,run_und ht]
  ·rename_i k1 k2 p k3 q ht
   rw[hx.int_inv];simp[Instr.checkKey,run_und ht]
  ·rename_i p q ht
   rw[hx.str_inv];simp[Instr.checkKey,run_und ht]
  ·rename_i fs xs ys ht
   split at h
   ·cases h
   ·obtain⟨vx,rfl,rx,ox⟩:=hx.agg_inv
    rw[run_checkKey_struct e (d+k) t vx fs ht];revert h;generalize fs.toList=l;clear ht;induction l with
    |nil=>intro h;simp[checkFieldsM]
    | cons f l ihl =>
     intro h;simp only[eqFields]at h;simp only[checkFieldsM];by_cases hn:f.name = "_"
     ·simp only[hn,if_true]at h
      simp only[hn,ne_eq,not_true,if_false];exact ihl h
     ·simp only[hn,if_false]at h
      simp only[ne_eq,hn,not_false_eq_true,if_true];split at h
      ·rename_i p q hp hq
       obtain⟨pv,e1,r1⟩:=run_part (w:=w) rx ox hp;split at h
       ·rename_i he
        simp only[Sem.run_bind,e1,Result.andThen_ok,ih _ _ _ he _ r1 k];exact ihl h
       ·cases h
       ·cases h
      ·cases h
  ·rename_i n et xs ys ht
   split at h
   ·rename_i ag m hl
    obtain⟨vx,rfl,rx,ox⟩:=hx.agg_inv;rw[run_checkKey_array e (d+k) t et n m vx ht (fun w=>(run_lay (w:=w) hl).2.1)];revert h;generalize List.range n=l;clear ht;induction l with
    |nil=>intro h;simp[checkElemsM]
    | cons i l ihl =>
     intro h;simp only[eqElems]at h;simp only[checkElemsM];split at h
     ·rename_i p q hp hq
      obtain⟨pv,e1,r1⟩:=run_part (w:=w) rx ox hp;split at h
      ·rename_i he
       simp only[Sem.run_bind,e1,Result.andThen_ok,ih _ _ _ he _ r1 k];exact ihl h
      ·cases h
      ·cases h
     ·cases h
   ·cases h
  ·cases h
theorem keyOf_ok{kt:TypeId}{k:AV}(h:keyOf P kt k=true){kv:Value}(r:VR C k kv)(e:Bool):(Instr.checkKey e 10000 kt kv).run P w= .ok () w:=by
 unfold keyOf at h;simp only[Bool.and_eq_true]at h;obtain⟨_,h2⟩:=h;split at h2
 ·rename_i he;exact checkKey_ok e eqDepth kt k k he kv r 9992
 ·cases h2
def EntR(C:Cfg)(entries:List (AV×AV))(es:List MapEntry):Prop:=es.length=entries.length/\∀(i:Nat) (k v:AV),entries[i]? =some (k,v)->∃e:MapEntry,es[i]? =some e/\VR C k e.key/\VR C v e.val
theorem EntR.cons{entries:List (AV×AV)}{es:List MapEntry}{k v:AV}(h:EntR C ((k,v)::entries) es):∃e r,es=e::r/\VR C k e.key/\VR C v e.val/\EntR C entries r:=by
 obtain⟨h1,h2⟩:=h;cases es with
 |nil=>simp at h1
 |cons e r=>
  obtain⟨e',g1,g2,g3⟩:=h2 0 k v (by simp);simp at g1;subst g1;exact⟨e,r,rfl,g2,g3,by simpa using h1,fun i k' v' hi=>by simpa using h2 (i+1) k' v' (by simpa using hi)⟩
def HitR(C:Cfg)(r:Option (Nat×AV))(rc:Option (Nat×Value)):Prop:=
 match r,rc with
 |none,none=>True
 |some (j,v),some (j',u)=>j=j'/\VR C v u
 |_,_=>False
theorem sameNow_eq{kt:TypeId}{x y:AV}{r q:Bool}{d:TypeDesc}{n:Nat}(h:eqT P (n+1) kt x y=some r)(hd:P.underlying kt=some d){xv yv:Value}(hx:VR C x xv)(hy:VR C y yv)(hs:Instr.sameNow d xv yv=some q):q=r:=by
 unfold eqT at h;split at h
 ·rename_i p q' ht
  rw[hd]at ht;cases ht;rw[hx.bool_inv,hy.bool_inv]at hs;cases h;simp[Instr.sameNow]at hs;exact hs.symm
 ·rename_i k1 k2 p k3 q' ht
  rw[hd]at ht;cases ht;rw[hx.int_inv,hy.int_inv]at hs;simp only[Instr.sameNow]at hs;split at h
  ·rename_i e;simp[e]at hs;cases h;exact hs.symm
  ·cases h
 ·rename_i p q' ht
  rw[hd]at ht;cases ht;rw[hx.str_inv,hy.str_inv]at hs;cases h;simp[Instr.sameNow,str_beq]at hs;exact hs.symm
 ·rename_i fs xs ys ht
  rw[hd]at ht;cases ht;obtain⟨vx,rfl,_⟩:=hx.agg_inv;simp[Instr.sameNow]at hs
 ·rename_i m e xs ys ht
  rw[hd]at ht;cases ht;obtain⟨vx,rfl,_⟩:=hx.agg_inv;simp[Instr.sameNow]at hs
 ·cases h
def findI(P:Program)(kt:TypeId)(x:AV):List (AV×AV)->Nat->Option (Option (Nat×AV))
 | [],_=>some none
 |(k,v)::r,i=>match eqT P eqDepth kt x k with
  |some true=>some (some (i,v))
  |some false=>findI P kt x r (i+1)
  |none=>none
theorem findI_V{kt:TypeId}{x:AV}:∀(es:List (AV×AV)) (i:Nat),findV P kt x es=(findI P kt x es i).map (fun r=>r.map (·.2)):=by
 intro es;induction es with
 |nil=>intro i;rfl
 |cons e es ih=>
  intro i;obtain⟨k,v⟩:=e;simp only[findV,findI];cases eqT P eqDepth kt x k<;>first|rfl|skip
  rename_i c;cases c
  ·exact ih (i+1)
  ·rfl
theorem findAsking_ok{kt:TypeId}{x:AV}{xv:Value}(hx:VR C x xv):∀(entries:List (AV×AV)) (es:List MapEntry) (i:Nat) (r:Option (Nat×AV)),EntR C entries es->findI P kt x entries i=some r->
  ∃rc,(Instr.findAsking kt xv es i).run P w= .ok rc w/\HitR C r rc:=by
 intro entries;induction entries with
 |nil=>
  intro es i r he h;simp[findI]at h;subst h;have:es=[]:=List.eq_nil_of_length_eq_zero (by simpa using he.1);subst this;exact⟨none,by simp[Instr.findAsking],trivial⟩
 | cons e entries ih =>
  intro es i r he h;obtain⟨k,v⟩:=e;obtain⟨e,es',rfl,hk,hv,hr⟩:=he.cons;simp only[findI]at h;split at h
  ·rename_i he
   cases h;refine⟨some (i,e.val),?_,rfl,hv⟩;simp[Instr.findAsking,eq_ok (w:=w) he hx hk]
  ·rename_i he
   obtain⟨rc,h1,h2⟩:=ih es' (i+1) r hr h;refine⟨rc,?_,h2⟩;simp only[Instr.findAsking,Sem.run_bind,eq_ok (w:=w) he hx hk,Result.andThen_ok];simpa using h1
  ·cases h
theorem findNow_ok{kt:TypeId}{d:TypeDesc}{x:AV}{xv:Value}(hd:P.underlying kt=some d)(hx:VR C x xv):∀(entries:List (AV×AV)) (es:List MapEntry) (i:Nat) (r:Option (Nat×AV)) (rc:Option (Nat×Value)),EntR C entries es->findI P kt x entries i=some r->
  Instr.findNow d xv es i=some rc->HitR C r rc:=by
 intro entries;induction entries with
 |nil=>
  intro es i r rc he h hn;simp[findI]at h;subst h;have:es=[]:=List.eq_nil_of_length_eq_zero (by simpa using he.1);subst this;simp[Instr.findNow]at hn;subst hn
  trivial
 | cons e entries ih =>
  intro es i r rc he h hn;obtain⟨k,v⟩:=e;obtain⟨e,es',rfl,hk,hv,hr⟩:=he.cons;simp only[findI]at h;simp only[Instr.findNow]at hn;split at hn
  ·rename_i hs
   cases hn;split at h
   ·cases h;exact⟨rfl,hv⟩
   ·rename_i he;have:=sameNow_eq (n:=7) he hd hx hk hs;cases this
   ·cases h
  ·rename_i hs
   split at h
   ·rename_i he;have:=sameNow_eq (n:=7) he hd hx hk hs;cases this
   ·exact ih es' (i+1) r rc hr h hn
   ·cases h
  ·cases hn
theorem findKey_ok{kt:TypeId}{x:AV}{xv:Value}{entries:List (AV×AV)}{es:List MapEntry}{r:Option (Nat×AV)}(hu:∃d,P.underlying kt=some d)(hx:VR C x xv)(he:EntR C entries es)(h:findI P kt x entries 0=some r) :
  ∃rc,(Instr.findKey kt xv es).run P w= .ok rc w/\HitR C r rc:=by
 obtain⟨d,hd⟩:=hu;simp only[Instr.findKey,Sem.run_bind,run_und hd,Result.andThen_ok];cases hn:Instr.findNow d xv es 0 with
 |some rc=>exact⟨rc,rfl,findNow_ok hd hx entries es 0 r rc he h hn⟩
 |none=>exact findAsking_ok hx entries es 0 r he h
theorem keyOf_und{kt:TypeId}{k:AV}(h:keyOf P kt k=true):∃d,P.underlying kt=some d:=by
 unfold keyOf at h;simp only[Bool.and_eq_true]at h;obtain⟨_,h2⟩:=h;cases hu:P.underlying kt with
 |none=>rw[show eqDepth=7+1 from rfl]at h2;simp[eqT,hu]at h2
 |some d=>exact⟨d,rfl⟩
theorem run_getObj_map{r:Nat}{es:Array MapEntry}{clock:Nat}(h:w.heap[r]? =some (.map es clock)):(getObj r).run P w= .ok (.map es clock) w:=by
 simp[getObj,Sem.run,h]
theorem St.entries(s:St C lam ms F b a w cs){x:AV}{v:Value}{es:List (AV×AV)}(h:entriesV F.hp x=some es)(r:VR C x v) :
  (v= .map none/\es=[])\/∃(n:Nat) (ces:Array MapEntry) (clock:Nat),v= .map (some n)/\w.heap[n]? =some (.map ces clock)/\EntR C es ces.toList:=by
 unfold entriesV at h;split at h
 ·cases h;cases r;exact .inl ⟨rfl,rfl⟩
 ·rename_i id
  split at h
  ·rename_i es' hg
   cases h;obtain⟨L,e1,ces,clock,h1,h2,h3⟩:=s.wr.blk id _ hg;cases r with
   |map e2=>
    rw[e1]at e2;cases e2;exact .inr ⟨L.b,ces,clock,rfl,h1,by simpa using h2,fun i k v hi=>by simpa using h3 i k v hi⟩
  ·cases h
 ·cases h
theorem St.lookupV (s : St C lam ms F b a w cs) {t : TypeId} {x i : Operand} {ok : Bool} {v : AV} (h : F.lookupV1 P t x i ok = some v) : Runs P w C lam F (Instr.lookup t (a.eval x) (a.eval i) ok) v := by
  unfold Fr.lookupV1 at h;split at h
  · rename_i p q hp hq
    have rp:=s.opv hp;have rq:=s.opv hq;revert rp rq;generalize a.eval x=xv;generalize a.eval i=iv;intro rp rq;unfold Go.AM.lookupV at h;split at h
    · rename_i kt et hu
      split at h
      · rename_i hk
        split at h
        · rename_i es hes
          rw[findI_V es 0]at h
          have key : ∀ (ces : Array MapEntry), EntR C es ces.toList -> ∃ u, (do Instr.checkKey ces.isEmpty 10000 kt iv
                                                                                let (v,ok') <-match <-Instr.findKey kt iv ces.toList with
                                                                                  |some (_,v)=>pure (v,true)
                                                                                  |none=>pure (<-zeroValue et,false)
                                                                                pure (if ok then Value.tuple #[v,.bool ok']else v):Sem Value).run P w= .ok u w/\VR C v u:=by
            intro ces hr;cases hf:findI P kt q es 0 with
            |none=>simp[hf]at h
            | some r =>
              obtain⟨rc,h1,h2⟩:=findKey_ok (w:=w) (keyOf_und hk) rq hr hf;simp only[Sem.run_bind,keyOf_ok hk rq,Result.andThen_ok,h1];simp only[hf,Option.map_some]at h;cases r with
              | none =>
                cases rc with
                | none =>
                  simp only[Option.map_none]at h;split at h
                  · rename_i z hz
                    cases h;obtain⟨zv,z1,z2,_⟩:=run_zero (P:=P) (w:=w) (C:=C) hz;cases ok with
                    |true=>exact⟨_,by simp[z1],tupleR z2 (.bool false)⟩
                    |false=>exact⟨_,by simp[z1],z2⟩
                  · cases h
                |some rc=>exact h2.elim
              | some jv =>
                cases rc with
                |none=>exact h2.elim
                | some rc =>
                  obtain⟨j,v'⟩:=jv;obtain⟨j',u⟩:=rc;simp only[Option.map_some]at h;cases h;cases ok with
                  |true=>exact⟨_,by simp,tupleR h2.2 (.bool true)⟩
                  |false=>exact⟨_,by simp,h2.2⟩
          rcases s.entries hes rp with⟨rfl,rfl⟩|⟨n,ces,clock,rfl,hn,hr⟩
          · obtain ⟨u, h1, h2⟩ := key #[] ⟨rfl, fun i k v hi => by simp at hi⟩
            refine .of (u:=u) ?_ h2;simp only[Instr.lookup,Sem.run_bind,run_und hu,Result.andThen_ok,Sem.run_pure];simp only[Sem.run_bind]at h1;exact h1
          · obtain ⟨u, h1, h2⟩ := key ces hr
            refine .of (u:=u) ?_ h2;simp only[Instr.lookup,Sem.run_bind,run_und hu,Result.andThen_ok,run_getObj_map hn,Sem.run_pure];simp only[Sem.run_bind]at h1;exact h1
        · cases h
      · cases h
    · cases h
  · cases h
end
end Go.AM
namespace Go.AM
open Go
variable[Keep]
section
variable{P:Program}{w:World}{C:Cfg}{lam:Nat->Option Nat}{ms:List Nat}{F:Fr}{b:Frame}{a:Act}{cs:List Frame}
theorem St.lenB(s:St C lam ms F b a w cs){t ty:TypeId}{ts:Array TypeId}{x:AV}{xv v:AV}{u:Value}{vs:Array Value}(hts:ts[0]? =some t)(hvs:vs[0]? =some u)(r:VR C x u)(h:lenB P F.hp t x=some v):Runs P w C lam F (Builtin.len_ ts ty vs) v:=by
 unfold Go.AM.lenB at h;split at h
 ·rename_i hu
  split at h
  ·rename_i st
   cases h;rw[r.str_inv]at hvs;exact .of (by simp[Builtin.len_,hts,hvs,run_und hu,goInt];rfl) (.int _ _)
  ·cases h
 ·rename_i e hu
  split at h
  ·rename_i n hn
   cases h;obtain⟨p,cap,rfl,_⟩:=lenS_ok hn r;exact .of (by simp[Builtin.len_,hts,hvs,run_und hu,goInt]) (.int _ _)
  ·cases h
 ·rename_i k e hu
  split at h
  ·rename_i es he
   cases h;rcases s.entries he r with⟨rfl,rfl⟩|⟨n,ces,clock,rfl,hn,hr⟩
   ·exact .of (by simp[Builtin.len_,hts,hvs,run_und hu,goInt]) (.int _ _)
   ·have hsz:ces.size=es.length:=by simpa using hr.1
    exact .of (by simp[Builtin.len_,hts,hvs,run_und hu,run_getObj_map hn,goInt,hsz]) (.int _ _)
  ·cases h
 ·rename_i n e hu
  cases h;exact .of (by simp[Builtin.len_,hts,hvs,run_und hu,goInt]) (.int _ _)
 ·cases h
theorem foldM_ok{f:Int->Int->Int}{g:Value->Value->Sem Value}(hg:∀k x k' y,g (.int k x) (.int k' y)=pure (.int k (f x y))){k:IntKind}:∀(l:List AV) (acc:Int) (v:AV) (vs:List Value),VRs C l vs.toArray->foldV f k acc l=some v->∃n,v= .int k n/\(vs.foldlM g (.int k acc)).run P w= .ok (.int k n) w:=by
 intro l;induction l with
 |nil=>
  intro acc v vs hv h;simp[foldV]at h;subst h;have:vs=[]:=List.eq_nil_of_length_eq_zero (by simpa using hv.1);subst this;exact⟨acc,rfl,rfl⟩
 | cons x l ih =>
  intro acc v vs hv h;cases vs with
  |nil=>have:=hv.1;simp at this
  | cons u vs =>
   have h0:=hv.2 0 (by simp);simp at h0;have hv':VRs C l vs.toArray:=⟨by simpa using hv.1,fun i hi=>by simpa using hv.2 (i+1) (by simpa using hi)⟩;cases x with
   |int k' n=>
    simp only[foldV]at h;rw[h0.int_inv];obtain⟨m,e1,e2⟩:=ih _ v vs hv' h;exact⟨m,e1,by simp[List.foldlM,hg,e2]⟩
   |_=>simp[foldV]at h
theorem St.builtinV(s:St C lam ms F b a w cs){bi:Builtin}{args:Array Operand}{ts:Array TypeId}{ty:TypeId}{cst:Array Bool}{v:AV}(h:F.builtinV1 P bi args.toList ts.toList=some v) :
  ∃u,(builtin bi ts ty cst (args.map a.eval)).run P w= .ok (.value u) w/\SR C lam F.lm v u:=by
 unfold Fr.builtinV1 at h;split at h
 ·rename_i l hl
  have rl:=opvs_arr s hl;unfold Go.AM.builtinV at h;split at h
  ·split at h
   ·rename_i t r x hts
    have ht0:ts[0]? =some t:=by
     have:=congrArg (·[0]?) hts;simpa using this
    obtain⟨u,hu,ru⟩:=rl.get (i:=0) (a:=x) (by simp);obtain⟨y,h1,h2⟩:=s.lenB (P:=P) (ty:=ty) (xv:=x) ht0 hu ru h;exact⟨y,by simp[builtin,h1],h2⟩
   ·cases h
  ·split at h
   ·rename_i k x r
    have hsz:=rl.1;obtain⟨u,hu,ru⟩:=rl.get (i:=0) (a:=.int k x) (by simp);obtain⟨vs,hvs⟩:∃vs,(args.map a.eval).toList= .int k x::vs:=by
     cases hh:(args.map a.eval).toList with
     |nil=>rw[<-Array.getElem?_toList,hh]at hu;simp at hu
     |cons c vs=>
      have:(args.map a.eval)[0]? =some c:=by rw[<-Array.getElem?_toList,hh];rfl
      rw[hu]at this;cases this;exact⟨vs,by rw[ru.int_inv]⟩
    have hv':VRs C r vs.toArray:=by
     have e:args.map a.eval=(Value.int k x::vs).toArray:=by rw[<-hvs]
     rw[e]at rl;exact⟨by simpa using rl.1,fun i hi=>by simpa using rl.2 (i+1) (by simpa using hi)⟩
    obtain⟨n,rfl,e2⟩:=foldM_ok (P:=P) (w:=w) (C:=C) (f:=minV) (g:=Builtin.min2) (fun k x k' y=>by simp[Builtin.min2,minV]) r x v vs hv' h;have hvs':args.toList.map a.eval= .int k x::vs:=by simpa using hvs
    exact⟨.int k n,by simp[builtin,Builtin.min_,hvs',e2],SR.of (.int _ _)⟩
   ·cases h
  ·split at h
   ·rename_i k x r
    have hsz:=rl.1;obtain⟨u,hu,ru⟩:=rl.get (i:=0) (a:=.int k x) (by simp);obtain⟨vs,hvs⟩:∃vs,(args.map a.eval).toList= .int k x::vs:=by
     cases hh:(args.map a.eval).toList with
     |nil=>rw[<-Array.getElem?_toList,hh]at hu;simp at hu
     |cons c vs=>
      have:(args.map a.eval)[0]? =some c:=by rw[<-Array.getElem?_toList,hh];rfl
      rw[hu]at this;cases this;exact⟨vs,by rw[ru.int_inv]⟩
    have hv':VRs C r vs.toArray:=by
     have e:args.map a.eval=(Value.int k x::vs).toArray:=by rw[<-hvs]
     rw[e]at rl;exact⟨by simpa using rl.1,fun i hi=>by simpa using rl.2 (i+1) (by simpa using hi)⟩
    obtain⟨n,rfl,e2⟩:=foldM_ok (P:=P) (w:=w) (C:=C) (f:=maxV) (g:=Builtin.max2) (fun k x k' y=>by simp[Builtin.max2,maxV]) r x v vs hv' h;have hvs':args.toList.map a.eval= .int k x::vs:=by simpa using hvs
    exact⟨.int k n,by simp[builtin,Builtin.max_,hvs',e2],SR.of (.int _ _)⟩
   ·cases h
  ·cases h
 ·cases h
def setMany(cs:Array Value)(off:Nat):List Value->Array Value
 | []=>cs
 |c::r=>setMany (cs.setIfInBounds off c) (off+1) r
theorem setMany_size:∀(l:List Value) (cs:Array Value) (off:Nat),(setMany cs off l).size=cs.size:=by
 intro l;induction l with
 |nil=>intro cs off;rfl
 |cons c l ih=>intro cs off;simp[setMany,ih]
theorem setMany_get:∀(l:List Value) (cs:Array Value) (off i:Nat),off+l.length <=cs.size->(setMany cs off l)[i]? =if off <=i/\i<off+l.length then l[i - off]? else cs[i]?:=by
 intro l;induction l with
 |nil=>intro cs off i h;simp[setMany];intro h1 h2;omega
 | cons c l ih =>
  intro cs off i h;simp only[setMany];simp at h;rw[ih _ _ _ (by simp;omega)];by_cases h1:off+1 <=i/\i<off+1+l.length
  ·rw[if_pos h1,if_pos (by simp;omega)]
   rw[show i - off=(i - (off+1))+1 from by omega];simp
  ·rw[if_neg h1]
   by_cases h2:off=i
   ·subst h2
    rw[if_pos (by simp)];have:off<cs.size:=by omega
    simp[Array.getElem?_setIfInBounds,this]
   ·rw[if_neg (by simp;omega)]
    simp[Array.getElem?_setIfInBounds,h2]
theorem zip_setMany:∀(l:List Value) (cs:Array Value) (off k:Nat),(l.zipIdx k).foldl (fun cs (p:Value×Nat)=>cs.setIfInBounds (off+p.2) p.1) cs=setMany cs (off+k) l:=by
 intro l;induction l with
 |nil=>intro cs off k;rfl
 |cons c l ih=>intro cs off k;simp only[List.zipIdx_cons,List.foldl_cons,setMany];rw[ih];rfl
theorem zipA_setMany(v:Array Value)(cs:Array Value)(off:Nat):v.zipIdx.foldl (fun cs (p:Value×Nat)=>cs.setIfInBounds (off+p.2) p.1) cs=setMany cs off v.toList:=by
 have:=zip_setMany v.toList cs off 0;rw[Nat.add_zero]at this;rw[<-this,<-Array.foldl_toList]
 congr 1
 simp
theorem splice_length{cells vs:List AV}{off:Nat}(h:off+vs.length <=cells.length):(splice cells off vs).length=cells.length:=by
 simp[splice];omega
theorem splice_get{cells vs:List AV}{off i:Nat}(h:off+vs.length <=cells.length):(splice cells off vs)[i]? =if off <=i/\i<off+vs.length then vs[i - off]? else cells[i]?:=by
 unfold splice;by_cases h1:i<off
 ·rw[if_neg (by omega),List.getElem?_append_left (by simp;omega),List.getElem?_take,if_pos h1]
 ·rw[List.getElem?_append_right (by simp;omega)]
  have e:(cells.take off).length=off:=by simp;omega
  rw[e];by_cases h2:i<off+vs.length
  ·rw[if_pos ⟨by omega,h2⟩,List.getElem?_append_left (by omega)]
  ·rw[if_neg (by omega),List.getElem?_append_right (by omega),List.getElem?_drop]
   congr 1
   omega
theorem VRs.of_get{l:List AV}{vs:Array Value}(h1:vs.size=l.length)(h2:∀(i:Nat) (x:AV),l[i]? =some x->∃v,vs[i]? =some v/\VR C x v):VRs C l vs:=by
 refine⟨h1,fun i hi=>?_⟩;obtain⟨v,hv,hr⟩:=h2 i l[i] (by simp[hi]);have e1:l.getD i .junk=l[i]:=by simp[List.getD,hi]
 have e2:vs.getD i undef=v:=by simp[Array.getD_eq_getD_getElem?,hv]
 rw[e1,e2];exact hr
theorem VRs.splice{cells vs:List AV}{c:Array Value}{u:Array Value}{off:Nat}(h:VRs C cells c)(k:VRs C vs u)(hle:off+vs.length <=cells.length):VRs C (splice cells off vs) (setMany c off u.toList):=by
 have hu:u.toList.length=vs.length:=by simpa using k.1
 refine .of_get (by rw[setMany_size,splice_length hle,h.1]) fun i x hx=>?_;rw[splice_get hle]at hx;rw[setMany_get _ _ _ _ (by rw[hu,h.1];exact hle),hu];split
 ·rename_i hc
  rw[if_pos hc]at hx;obtain⟨v,hv,hr⟩:=k.get hx;exact⟨v,by simpa using hv,hr⟩
 ·rename_i hc
  rw[if_neg hc]at hx;exact h.get hx
theorem one_splice{cells vs:List AV}{off:Nat}(h:∀x∈cells,x.one=true)(k:∀x∈vs,x.one=true):∀x∈Go.AM.splice cells off vs,x.one=true:=by
 intro x hx;simp only[Go.AM.splice,List.mem_append]at hx;rcases hx with hx|hx|hx
 ·exact h x (List.mem_of_mem_take hx)
 ·exact k x hx
 ·exact h x (List.mem_of_mem_drop hx)
theorem not_tuple{v:AV}(h:isTuple v=false):∀l,v≠.tuple l:=by
 intro l e;subst e;simp[isTuple]at h
def PartR(C:Cfg)(l:List (Nat×AV))(ps:List (Nat×Value)):Prop:=ps.length=l.length/\∀(k i:Nat) (v:AV),l[k]? =some (i,v)->∃u,ps[k]? =some (i,u)/\VR C v u
theorem PartR.cons{l:List (Nat×AV)}{ps:List (Nat×Value)}{i:Nat}{v:AV}(h:PartR C ((i,v)::l) ps):∃u r,ps=(i,u)::r/\VR C v u/\PartR C l r:=by
 obtain⟨h1,h2⟩:=h;cases ps with
 |nil=>simp at h1
 |cons p r=>
  obtain⟨u,g1,g2⟩:=h2 0 i v (by simp);simp at g1;subst g1;exact⟨u,r,rfl,g2,by simpa using h1,fun k j v' hk=>by simpa using h2 (k+1) j v' (by simpa using hk)⟩
theorem St.parts(s:St C lam ms F b a w cs):∀(ps:List (Nat×Operand)) (l:List (Nat×AV)),F.parts ps=some l->PartR C l (ps.map fun p=>(p.1,a.eval p.2)):=by
 intro ps;induction ps with
 |nil=>intro l h;simp[Fr.parts]at h;subst h;exact⟨rfl,fun k i v hk=>by simp at hk⟩
 | cons p ps ih =>
  intro l h;obtain⟨i,x⟩:=p;simp only[Fr.parts]at h;split at h
  ·rename_i v r hv hr
   cases h;obtain⟨g1,g2⟩:=ih r hr;refine⟨by simp[<-g1],fun k j u hk=>?_⟩;cases k with
   |zero=>simp at hk;obtain⟨rfl,rfl⟩:=hk;exact⟨_,by simp,s.opv hv⟩
   |succ k=>simpa using g2 k j u (by simpa using hk)
  ·cases h
theorem fillV_ok{place:Nat->Option (Nat×Nat)}:∀(l:List (Nat×AV)) (ps:List (Nat×Value)) (cells:List AV) (c:Array Value) (r:List AV),PartR C l ps->VRs C cells c->(∀x∈cells,x.one=true)->fillV place cells l=some r->
  ∃c',Instr.fill place c ps=some c'/\VRs C r c'/\∀x∈r,x.one=true:=by
 intro l;induction l with
 |nil=>
  intro ps cells c r hp hv ho h;simp[fillV]at h;subst h;have:ps=[]:=List.eq_nil_of_length_eq_zero (by simpa using hp.1);subst this;exact⟨c,rfl,hv,ho⟩
 | cons p l ih =>
  intro ps cells c r hp hv ho h;obtain⟨i,v⟩:=p;obtain⟨u,ps',rfl,hu,hp'⟩:=hp.cons;simp only[fillV]at h;split at h
  ·cases h
  ·rename_i off size hpl
   split at h
   ·rename_i hc
    obtain⟨h1,h2,h3⟩:=hc;obtain⟨k1,k2⟩:=hu.cells (not_tuple h3);obtain⟨c',e1,e2,e3⟩:=ih ps' _ _ r hp' (hv.splice k1 (by rw[h1];exact h2)) (one_splice ho k2) h;refine⟨c',?_,e2,e3⟩;have hsz:u.cells.size=size:=by rw[k1.1];exact h1
    simp only[Instr.fill,hpl,hsz,hv.1];rw[if_neg (by simp;omega)];rw[<-zipA_setMany]at e1;exact e1
   ·cases h
end
end Go.AM
namespace Go.AM
open Go
variable[Keep]
section
variable{P:Program}{w:World}{C:Cfg}{lam:Nat->Option Nat}{ms:List Nat}{F:Fr}{b:Frame}{a:Act}{cs:List Frame}
theorem run_places{w:World}:∀(l:List Field),(∀f∈l,(P.info? f.type).isSome=true)->(l.mapM fun f=>(do pure (f.offset,<-sizeOf f.type):Sem (Nat×Nat))).run P w= .ok (l.map fun f=>(f.offset,szT P f.type)) w:=by
 intro l;induction l with
 |nil=>intro h;rfl
 |cons f l ih=>
  intro h;have h1:=h f (by simp);obtain⟨i,hi⟩:=Option.isSome_iff_exists.1 h1;have hs:(sizeOf f.type).run P w= .ok (szT P f.type) w:=by simp[sizeOf,run_info hi,szT,hi]
  have:=ih (fun g hg=>h g (by simp[hg]));simp only[bind_pure_comp]at this;simp[List.mapM_cons,hs,this]
theorem run_placesA{w:World}(fs:Array Field)(h:∀f∈fs.toList,(P.info? f.type).isSome=true):(fs.mapM fun f=>(do pure (f.offset,<-sizeOf f.type):Sem (Nat×Nat))).run P w= .ok (fs.map fun f=>(f.offset,szT P f.type)) w:=by
 rw[Array.mapM_eq_mapM_toList];simp only[Sem.run_map,run_places fs.toList h,Result.andThen_ok]
 congr 1
 apply Array.toList_inj.1;simp
theorem St.buildV(s:St C lam ms F b a w cs){t:TypeId}{ps:Array (Nat×Operand)}{v:AV}(h:F.buildV P t ps.toList=some v):Runs P w C lam F (Instr.build t (ps.map fun(i,x)=>(i,a.eval x))) v:=by
 unfold Fr.buildV at h;split at h
 ·cases h
 ·rename_i hk
  split at h
  ·rename_i z l hz hl
   split at h
   ·rename_i cells hf
    cases h;obtain⟨zv,z1,z2,_⟩:=run_zero (P:=P) (w:=w) (C:=C) hz;obtain⟨vs,rfl,rz,oz⟩:=z2.agg_inv;have hp:=s.parts ps.toList l hl;have hpe:(ps.map fun(i,x)=>(i,a.eval x)).toList=ps.toList.map fun p=>(p.1,a.eval p.2):=by simp
    obtain⟨c',e1,e2,e3⟩:=fillV_ok l _ z vs cells hp rz oz hf;refine .of (u:=.agg c') ?_ (.agg e2.1 e2.2 e3);unfold partsKnown at hk;simp only[Instr.build,Sem.run_bind,z1,Result.andThen_ok,Value.cells];split at hk
    ·rename_i fs hu
     simp only[run_und hu,Result.andThen_ok];have hk':(fs.toList.all fun fd=>(P.info? fd.type).isSome)=true:=by simpa only[Bool.not_eq_true',Bool.not_eq_false]using hk
     have hall:∀f∈fs.toList,(P.info? f.type).isSome=true:=List.all_eq_true.1 hk';have hm:=run_placesA (w:=w) fs hall;simp only[Sem.run_bind,hm,Result.andThen_ok,hpe];have hpl:(fun i=>(fs.map fun f=>(f.offset,szT P f.type))[i]?)=placeOf P t:=by
      funext i
      simp only[placeOf,hu,Array.getElem?_map];cases fs[i]?<;>rfl
     rw[hpl,e1];rfl
    ·rename_i n e hu
     simp only[run_und hu,Result.andThen_ok];have hi:(P.info? e).isSome=true:=by simpa only[Bool.not_eq_true',Bool.not_eq_false]using hk
     obtain⟨i,hi⟩:=Option.isSome_iff_exists.1 hi;have hs:(sizeOf e).run P w= .ok (szT P e) w:=by simp[sizeOf,run_info hi,szT,hi]
     simp only[Sem.run_bind,hs,Result.andThen_ok,hpe];have hpl:(fun i=>some (i * szT P e,szT P e))=placeOf P t:=by funext i;simp[placeOf,hu]
     rw[hpl,e1];rfl
    ·simp at hk
   ·cases h
  ·cases h
def FlatR(C:Cfg)(m:Nat)(elems:List AV)(c:Array Value)(o:Nat):Prop:=
 ∀(i:Nat) (e:AV),elems[i]? =some e->e.cells.length=m/\(∀x∈e.cells,x.one=true)/\∀(j:Nat) (x:AV),e.cells[j]? =some x->∃v,c[o+i * m+j]? =some v/\VR C x v
theorem mul_lt_of{i n m j:Nat}(hi:i<n)(hj:j<m):i * m+j<n * m:=by
 have:(i+1) * m <=n * m:=Nat.mul_le_mul_right _ hi;rw[Nat.add_mul]at this;omega
theorem FlatR.zeros{z:AV}{zv:Value}{n m:Nat}(r:VR C z zv)(ht:isTuple z=false)(hm:z.cells.length=m)(h0:m≠0):FlatR C m (List.replicate n z) ((Array.range (n * m)).map (zv.cells[· % zv.cells.size]!)) 0:=by
 obtain⟨k1,k2⟩:=r.cells (not_tuple ht);intro i e he;have hi:i<n:=by
  rcases Nat.lt_or_ge i n with h' |h'
  ·exact h'
  ·rw[List.getElem?_eq_none (by simpa using h')]at he;cases he
 have:e=z:=by rw[List.getElem?_replicate]at he;simp[hi]at he;exact he.symm
 subst this;refine⟨hm,k2,fun j x hx=>?_⟩;have hj:j<m:=by
  rw[<-hm];rcases Nat.lt_or_ge j e.cells.length with h' |h'
  ·exact h'
  ·rw[List.getElem?_eq_none h']at hx;cases hx
 obtain⟨v,hv,hr⟩:=k1.get hx;have hlt:=mul_lt_of hi hj;refine⟨v,?_,hr⟩;have hsz:zv.cells.size=m:=by rw[k1.1];exact hm
 have hmod:(i * m+j) % m=j:=by rw[Nat.mul_comm,Nat.mul_add_mod,Nat.mod_eq_of_lt hj]
 have hget:zv.cells[j]! =v:=by rw[getElem!_def,hv]
 simp only[Nat.zero_add];rw[Array.getElem?_map,Array.getElem?_range];simp[hlt,hsz,hmod,hget]
theorem FlatR.set{elems:List AV}{c:Array Value}{o m i:Nat}{v:AV}{u:Value}(h:FlatR C m elems c o)(r:VR C v u)(ht:isTuple v=false)(hm:v.cells.length=m)(hi:i<elems.length)(hc:o+elems.length * m <=c.size) :
  FlatR C m (elems.set i v) (setMany c (o+i * m) u.cells.toList) o:=by
 obtain⟨k1,k2⟩:=r.cells (not_tuple ht);have hul:u.cells.toList.length=m:=by rw[<-hm];simpa using k1.1
 have hle:(i+1) * m <=elems.length * m:=Nat.mul_le_mul_right _ hi;rw[Nat.add_mul,Nat.one_mul]at hle;intro i' e he;rw[List.getElem?_set]at he;by_cases hii:i=i'
 ·subst hii
  simp[hi]at he;subst he;refine⟨hm,k2,fun j x hx=>?_⟩;obtain⟨w,hw,hr⟩:=k1.get hx;have hj:j<m:=by
   rw[<-hm];rcases Nat.lt_or_ge j v.cells.length with h' |h'
   ·exact h'
   ·rw[List.getElem?_eq_none h']at hx;cases hx
  refine⟨w,?_,hr⟩;rw[setMany_get _ _ _ _ (by rw[hul];omega),hul,if_pos (by omega),show o+i * m+j - (o+i * m)=j from by omega];simpa using hw
 ·rw[if_neg hii]at he
  obtain⟨g1,g2,g3⟩:=h i' e he;refine⟨g1,g2,fun j x hx=>?_⟩;obtain⟨w,hw,hr⟩:=g3 j x hx;have hj:j<m:=by
   rw[<-g1];rcases Nat.lt_or_ge j e.cells.length with h' |h'
   ·exact h'
   ·rw[List.getElem?_eq_none h']at hx;cases hx
  refine⟨w,?_,hr⟩;rw[setMany_get _ _ _ _ (by rw[hul];omega),hul,if_neg ?_]
  ·exact hw
  ·rcases Nat.lt_or_gt_of_ne hii with hlt|hgt
   ·have:(i+1) * m <=i' * m:=Nat.mul_le_mul_right _ hlt
    rw[Nat.add_mul,Nat.one_mul]at this;omega
   ·have:(i'+1) * m <=i * m:=Nat.mul_le_mul_right _ hgt
    rw[Nat.add_mul,Nat.one_mul]at this;omega
theorem fillE_ok{m:Nat}:∀(l:List (Nat×AV)) (ps:List (Nat×Value)) (elems:List AV) (c:Array Value) (r:List AV),PartR C l ps->FlatR C m elems c 0->elems.length * m <=c.size->fillE elems m l=some r->
  ∃c',Instr.fill (fun i=>some (i * m,m)) c ps=some c'/\FlatR C m r c' 0/\c'.size=c.size/\r.length=elems.length:=by
 intro l;induction l with
 |nil=>
  intro ps elems c r hp hf hc h;simp[fillE]at h;subst h;have:ps=[]:=List.eq_nil_of_length_eq_zero (by simpa using hp.1);subst this;exact⟨c,rfl,hf,rfl,rfl⟩
 | cons p l ih =>
  intro ps elems c r hp hf hc h;obtain⟨i,v⟩:=p;obtain⟨u,ps',rfl,hu,hp'⟩:=hp.cons;simp only[fillE]at h;split at h
  ·rename_i hh
   obtain⟨h1,h2,h3⟩:=hh;have hset:=hf.set hu h3 h1 h2 (by simpa using hc);rw[Nat.zero_add]at hset;obtain⟨c',e1,e2,e3,e4⟩:=ih ps' _ _ r hp' hset (by rw[setMany_size];simpa using hc) h;refine⟨c',?_,e2,by rw[e3,setMany_size],by simpa using e4⟩;obtain⟨k1,_⟩:=hu.cells (not_tuple h3);have hsz:u.cells.size=m:=by rw[k1.1];exact h1
   have hle:(i+1) * m <=elems.length * m:=Nat.mul_le_mul_right _ h2;rw[Nat.add_mul,Nat.one_mul]at hle;simp only[Instr.fill,hsz];rw[if_neg (by simp;omega),zipA_setMany];exact e1
  ·cases h
theorem heap_push{w w':World}{o:Obj}(hh:w'.heap=w.heap.push o){β:Nat}(h:β<w.heap.size):w'.heap[β]? =w.heap[β]?:=by
 rw[hh,Array.getElem?_push,if_neg (by omega)]
theorem WR.sig_lt(r:WR C F.hp w){x:Addr}{v:Value}(h:C.sig x=some v):x.block<w.heap.size:=by
 have:=r.sig x v h;unfold World.cell? at this;rcases Nat.lt_or_ge x.block w.heap.size with h' |h'
 ·exact h'
 ·rw[Array.getElem?_eq_none h']at this;simp at this
theorem St.push (s : St C lam ms F b a w cs) {w' : World} {o : Obj} {C' : Cfg} (hh : w'.heap = w.heap.push o) (hos : w'.os = w.os) (htp : w'.tape = w.tape) (hout : w'.output = w.output)
    (hle:C.le C') (hmu:∀id L,C'.mu id=some L->C.mu id=some L) (hsig:∀x v,C'.sig x=some v->C.sig x=some v\/(x.block=w.heap.size/\w'.cell? x=some v)) :
    St C' lam ms F b a w' cs/\Ext C F.hp (Own lam ms) w C' F.hp (Own lam ms) w':=by
  have hlive:∀ β,Live C' F.hp β->Live C F.hp β:=fun β ⟨id,blk,L,h1,h2,h3⟩=>⟨id,blk,L,h1,hmu _ _ h2,h3⟩;constructor
  · refine { wr := ⟨fun x v h => ?_, fun id blk h => ?_, fun id id' blk blk' L L' h1 h2 h3 h4 => s.wr.inj id id' blk blk' L L' h1 h2 (hmu _ _ h3) (hmu _ _ h4), fun id blk L x v h1 h2 h3 => ?_, fun id L h => s.wr.fresh id L (hmu _ _ h), s.wr.base.on hle.sig (fun x v e => heap_push hh (s.wr.sig_lt e))⟩,
             env:=fun t=>(s.env t).mono hle,box:=fun t β ht=>?_,inj:=s.inj,mark:=fun m hm=>?_,nodup:=s.nodup,live:=fun β ho l=>s.live β ho (hlive β l),osig:=fun β x v ho h=>?_,
             df:=s.df.mono hle,up:=s.up.mono hle,fn:=s.fn,rnd:=s.rnd }
    · rcases hsig x v h with h | ⟨_, h⟩
      · have hb := s.wr.sig_lt h
        have:=s.wr.sig x v h;unfold World.cell? at this ⊢;rw[heap_push hh hb];exact this
      · exact h
    · obtain ⟨L, h1, h2⟩ := s.wr.blk id blk h
      exact⟨L,hle.mu _ _ h1,h2.same hle (heap_push hh h2.lt)⟩
    · rcases hsig x v h3 with h | ⟨h, _⟩
      · exact s.wr.apart id blk L x v h1 (hmu _ _ h2) h
      · obtain ⟨L', g1, g2⟩ := s.wr.blk id blk h1
        rw[hmu _ _ h2]at g1;cases g1;have:=g2.lt;omega
    · obtain ⟨g, cells, c, h1, h2, h3, h4⟩ := s.box t β ht
      exact⟨g,cells,c,h1,h2.same (heap_push hh h2.lt),h3.mono hle,h4⟩
    · exact(heap_push hh (s.own_lt (.inr hm))).trans (s.mark m hm)
    · rcases hsig x v h with h | ⟨h, _⟩
      · exact s.osig β x v ho h
      · have := s.own_lt ho
        omega
  · exact { le := hle, os := hos, tape := htp, output := hout, size := by rw [hh]; simp, same := fun β h _ _ => heap_push hh h, live := fun β _ l => .inl (hlive β l), own := fun β _ o => .inr o,
            sig:=fun x v hb h=>by
              rcases hsig x v h with h|⟨h,_⟩
              · exact .inl h
              · omega,next:=Nat.le_refl _ }
def sigPush(C:Cfg)(n:Nat)(c:Array Value):Cfg:={ C with sig:=fun x=>if x.block=n/\x.spot=none then c[x.off]? else C.sig x }
theorem sigPush_le(r:WR C F.hp w)(c:Array Value):C.le (sigPush C w.heap.size c):=
 ⟨fun _ _ h=>h,fun x v h=>by
  have:=r.sig_lt h;simp only[sigPush];rw[if_neg (by omega)];exact h⟩
theorem slice_of_flat{m o B:Nat}{elems:List AV}{c:Array Value}{cap:Nat}(h:FlatR C m elems c o)(hs:∀k,k<c.size->C.sig ⟨B,k,none⟩=c[k]?)(hcap:elems.length <=cap)(hc:o+elems.length * m <=c.size) :
  VR C (.vslice elems) (.slice (some ⟨B,o,none⟩) elems.length cap):=by
 have hget:∀i j,i<elems.length->j<m->∃v,c[o+i * m+j]? =some v/\VR C ((elems.getD i .junk).cells.getD j .junk) v:=by
  intro i j hi hj;obtain⟨g1,g2,g3⟩:=h i elems[i] (by simp[hi]);obtain⟨v,hv,hr⟩:=g3 j ((elems[i]).cells[j]'(by omega)) (by simp);refine⟨v,hv,?_⟩;have e:elems.getD i .junk=elems[i]:=by simp[List.getD,hi]
  rw[e];have e2:(elems[i]).cells.getD j .junk=(elems[i]).cells[j]'(by omega):=by
   have:j<(elems[i]).cells.length:=by omega
   simp[List.getD,this]
  rw[e2];exact hr
 refine .vslice (sz:=m) (fun i j=>c.getD (o+i * m+j) undef) hcap (fun e he=>?_) (fun i j hi hj=>?_) (fun i j hi hj=>?_) (fun e he=>?_)
 ·obtain⟨i,hi⟩:=List.mem_iff_getElem?.1 he
  exact(h i e hi).1
 ·obtain⟨v,hv,_⟩:=hget i j hi hj
  have hlt:=mul_lt_of hi hj;rw[hs _ (by omega),hv];simp[Array.getD_eq_getD_getElem?,hv]
 ·obtain⟨v,hv,hr⟩:=hget i j hi hj
  have:c.getD (o+i * m+j) undef=v:=by simp[Array.getD_eq_getD_getElem?,hv]
  rw[this];exact hr
 ·obtain⟨i,hi⟩:=List.mem_iff_getElem?.1 he
  exact(h i e hi).2.1
theorem elemT_und{t e:TypeId}(h:elemT P t=some e):P.underlying t=some (.slice e):=by
 unfold elemT at h;split at h
 ·rename_i x hu;cases h;exact hu
 ·cases h
theorem buildSlice_ok(s:St C lam ms F b a w cs){t:TypeId}{n:Nat}{ps:Array (Nat×Operand)}{v:AV}(h:F.buildSliceV P t n ps.toList=some v) :
  ∃(c:Array Value) (e:TypeId),elemT P t=some e/\(Instr.buildSlice t n (ps.map fun(i,x)=>(i,a.eval x))).run P w= .ok (.slice (some ⟨w.heap.size,0,none⟩) n n) { w with heap:=w.heap.push (.cells c e) } /\
   ((v= .vempty/\n=0)\/∃elems,v= .vslice elems/\elems.length=n/\FlatR C (szT P e) elems c 0/\c.size=n * szT P e):=by
 unfold Fr.buildSliceV at h;split at h
 ·rename_i e he
  split at h
  ·rename_i z l hz hl
   obtain⟨zv,z1,z2,i,hi,_⟩:=run_zero (P:=P) (w:=w) (C:=C) hz;have hs:(sizeOf e).run P w= .ok (szT P e) w:=by simp[sizeOf,run_info hi,szT,hi]
   have hpe:(ps.map fun(i,x)=>(i,a.eval x)).toList=ps.toList.map fun p=>(p.1,a.eval p.2):=by simp
   unfold sliceOf at h;split at h
   ·rename_i hn
    split at h
    ·cases h
     subst hn;have hp:=s.parts ps.toList [] hl;have hnil:ps.toList.map (fun p=>(p.1,a.eval p.2))=[]:=List.eq_nil_of_length_eq_zero (by simpa using hp.1);refine⟨#[],e,he,?_,.inl ⟨rfl,rfl⟩⟩;simp only[Instr.buildSlice,Sem.run_bind,run_und (elemT_und he),Result.andThen_ok,hs];rw[if_neg (by simp)];simp only[Nat.zero_mul,if_true,Sem.run_bind,Sem.run_pure,Result.andThen_ok,hpe,hnil];simp[newRow,Instr.fill,show Array.range 0=#[] from rfl]
    ·cases h
   ·rename_i hn
    split at h
    ·rename_i hc
     obtain⟨h1,h2,h3,h4⟩:=hc;split at h
     ·rename_i elems hf
      cases h;obtain⟨c',e1,e2,e3,e4⟩:=fillE_ok l _ (List.replicate n z) _ elems (s.parts ps.toList l hl) (FlatR.zeros (n:=n) z2 h3 h1 h4) (by simp) hf;refine⟨c',e,he,?_,.inr ⟨elems,rfl,by simpa using e4,e2,by rw[e3];simp⟩⟩;have hne:n * szT P e≠0:=Nat.mul_ne_zero hn h4;simp only[Instr.buildSlice,Sem.run_bind,run_und (elemT_und he),Result.andThen_ok,hs,z1];rw[if_neg (by omega)];simp only[Sem.run_bind,Sem.run_pure,Result.andThen_ok,hne,if_false,z1,hpe,e1];simp[newRow]
     ·cases h
    ·cases h
  ·cases h
 ·cases h
end
end Go.AM
namespace Go.AM
open Go
variable[Keep]
section
variable{P:Program}{w:World}{C:Cfg}{lam:Nat->Option Nat}{ms:List Nat}{F:Fr}{b:Frame}{a:Act}{cs:List Frame}
theorem rd_sound{X:Ctx}(s:St C lam ms F b a w cs){o:Oper}{v:AV}(hna:isAlloc o=false)(h:rdV X F o.dst o.op=some v) :
  ∃u w' C',(execOp a.eval o).run X.P w= .ok (.value u) w'/\SR C' lam F.lm v u/\St C' lam ms F b a w' cs/\Ext C F.hp (Own lam ms) w C' F.hp (Own lam ms) w':=by
 have plain:∀{e:Sem Value},Runs X.P w C lam F e v->execOp a.eval o=(do pure (Next.value (<-e)))->∃u w' C',(execOp a.eval o).run X.P w= .ok (.value u) w'/\SR C' lam F.lm v u/\St C' lam ms F b a w' cs/\Ext C F.hp (Own lam ms) w C' F.hp (Own lam ms) w':=by
  intro e hr he;obtain⟨u,h1,h2⟩:=hr;exact⟨u,w,C,by rw[he];simp[h1],h2,s,.refl _ _ _ _⟩
 obtain⟨dst,op,ty,pos,after,guard⟩:=o;simp only at h;cases op<;>simp only[rdV]at h
 case move x=>exact⟨_,w,C,rfl,s.opd h,s,.refl _ _ _ _⟩
 case assign x=>exact⟨_,w,C,rfl,s.opd h,s,.refl _ _ _ _⟩
 case pick c x y=>
  obtain⟨u,h1,h2⟩:=s.pickV (P:=X.P) h;refine⟨u,w,C,?_,h2,s,.refl _ _ _ _⟩;simp only[execOp,Sem.run_bind]at h1 ⊢;cases hc:(asBool (a.eval c)).run X.P w with
  |ok t w1=>simp[hc]at h1 ⊢;exact h1
  |halt x w1=>simp[hc]at h1
 case alloc=>simp[isAlloc]at hna
 case build t ps=>exact plain (s.buildV h) rfl
 case buildSlice t n ps=>
  obtain⟨c,e,he,hrun,hv⟩:=buildSlice_ok (P:=X.P) s h;have hx:(execOp a.eval { dst:=dst,op:=.buildSlice t n ps,type:=ty,pos:=pos,after:=after,guard:=guard }).run X.P w= .ok (.value (.slice (some ⟨w.heap.size,0,none⟩) n n)) { w with heap:=w.heap.push (.cells c e) }:=by
   simp only[execOp];simp only[Sem.run_bind,hrun,Result.andThen_ok,Sem.run_pure]
  have hle:=sigPush_le s.wr c;have hcell:∀k,World.cell? { w with heap:=w.heap.push (.cells c e) } ⟨w.heap.size,k,none⟩=c[k]?:=by
   intro k;simp[World.cell?]
  obtain⟨s',x'⟩:=s.push (w':={ w with heap:=w.heap.push (.cells c e) }) rfl rfl rfl rfl hle (fun _ _ h=>h) (fun x v' hs=>by
   simp only[sigPush]at hs;split at hs
   ·rename_i hx
    refine .inr ⟨hx.1,?_⟩;obtain⟨xb,xo,xs⟩:=x;simp only at hx hs ⊢;obtain⟨rfl,rfl⟩:=hx;rw[hcell];exact hs
   ·exact .inl hs)
  refine⟨_,_,_,hx,SR.of ?_,s',x'⟩;rcases hv with⟨rfl,rfl⟩|⟨elems,rfl,hl,hf,hsz⟩
  ·exact .vempty _
  ·have hf':FlatR (sigPush C w.heap.size c) (szT X.P e) elems c 0:=fun i e he=>by
    obtain⟨g1,g2,g3⟩:=hf i e he;exact⟨g1,g2,fun j x hx=>let ⟨v,hv,hr⟩:=g3 j x hx;⟨v,hv,hr.mono hle⟩⟩
   have:=slice_of_flat (C:=sigPush C w.heap.size c) (B:=w.heap.size) (cap:=elems.length) hf' (fun k hk=>by simp[sigPush]) (Nat.le_refl _) (by rw[hl,hsz];omega)
   rwa [hl]at this
 case load t x=>exact plain (s.loadV h) rfl
 case nilCheck x=>
  unfold Fr.nilCheckV at h;have fin:∀u,a.eval x=u->SR C lam F.lm v u->u≠.pointer none->u≠.nilIface->u≠.nilFunc->(∀n p q,u≠.func (.method n) p q)->
    ∃u w' C',(execOp a.eval { dst:=dst,op:=.nilCheck x,type:=ty,pos:=pos,after:=after,guard:=guard }).run X.P w= .ok (.value u) w'/\SR C' lam F.lm v u/\St C' lam ms F b a w' cs/\Ext C F.hp (Own lam ms) w C' F.hp (Own lam ms) w':=by
   intro u hu r h1 h2 h3 h4;refine⟨u,w,C,?_,r,s,.refl _ _ _ _⟩;simp only[execOp,hu];cases u with
   |pointer p=>cases p with
    |none=>exact absurd rfl h1
    |some p=>rfl
   |nilIface=>exact absurd rfl h2
   |nilFunc=>exact absurd rfl h3
   |func fn p q=>cases fn with
    |method n=>exact absurd rfl (h4 n p q)
    |_=>rfl
   |_=>rfl
  split at h
  ·rename_i t g o hp
   cases h;have r:=s.opd hp;obtain⟨g',cells,β,_,_,e,_⟩:=id r;rw[e]at r;exact fin _ e r (by simp) (by simp) (by simp) (by simp)
  ·rename_i id o hp
   cases h;have r:=s.opd hp;generalize hu:a.eval x=u at r;have r':VR C (.ptr id o) u:=r;cases r' with
   |ptr e=>exact fin _ hu r (by simp) (by simp) (by simp) (by simp)
  ·rename_i id sz i j hp
   cases h;have r:=s.opd hp;generalize hu:a.eval x=u at r;have r':VR C (.eptr id sz i j) u:=r;cases r' with
   |eptr e=>exact fin _ hu r (by simp) (by simp) (by simp) (by simp)
  ·rename_i l hp
   cases h;have r:=s.opd hp;generalize hu:a.eval x=u at r;have r':VR C (.vptr l) u:=r;cases r' with
   |vptr vs e1 e2 e3=>exact fin _ hu r (by simp) (by simp) (by simp) (by simp)
  ·rename_i f p q hp
   cases h;have r:=s.opd hp;generalize hu:a.eval x=u at r;have r':VR C (.func (.func f) p q) u:=r;cases r' with
   |func e1 e2 e3 e4=>exact fin _ hu r (by simp) (by simp) (by simp) (by simp)
  ·cases h
 case binOp op t x y yt=>exact plain (s.binV (yt:=yt) h) rfl
 case unOp op t x=>exact plain (s.unV h) rfl
 case convert t u x=>exact plain (s.convV h) rfl
 case makeInterface t x=>exact plain (s.ifaceV h) rfl
 case makeFunc fn p q=>exact plain (s.funcV h) rfl
 case slice t x lo hi mx=>exact plain (s.sliceV h) rfl
 case fieldAddr t x f=>exact plain (s.fieldAddrV h) rfl
 case field t x f=>exact plain (s.fieldV h) rfl
 case indexAddr t x i=>exact plain (s.indexAddrV h) rfl
 case index t x i=>exact plain (s.indexV h) rfl
 case lookup t x i ok=>exact plain (s.lookupV h) rfl
 case typeAssert x xt t ok=>exact plain (s.assertV h) rfl
 case extract t i=>exact plain (s.extractV h) rfl
 case call c=>
  unfold Fr.callRd at h;split at h
  ·rename_i bi hc
   obtain⟨u,h1,h2⟩:=s.builtinV (P:=X.P) (ty:=ty) (cst:=c.args.map fun| .const _=>true|_=>false) h;exact⟨u,w,C,by simp only[execOp,resolve,hc,Sem.run_bind,Sem.run_pure,Result.andThen_ok,invoke];exact h1,h2,s,.refl _ _ _ _⟩
  ·cases h
 all_goals cases h
end
end Go.AM
namespace Go.AM
open Go
variable[Keep]
section steps
variable{P:Program}{w w':World}{b:Frame}{a:Act}{cs:List Frame}{ops:Array Oper}{i:Nat}{rest:List Nat}{k:List Item}{o:Oper}
theorem stepA_value{u:Value}(ho:ops[i]? =some o)(hw:Region.wanted o (yielded ops a.tmps)=true)(hd:∀c,o.op≠.defer c)(hr:(execOp a.eval o).run P w= .ok (.value u) w') :
  step P (lone (b.atR a (.inRegion ops (i::rest)::k)) cs w)= .next (lone (b.atR (a.put o.dst u) (.inRegion ops rest::k)) cs w'):=by
 have hf:=Frame.finish_atR b a ops i rest k u;rw[ho]at hf;refine step_lone_go ?_;rw[stepGR_op ho hw,Oper.semAt_eq _ _ _ hd];simp only[stepG.apply,Sem.runT_eq,hr,GStep.bare_after];exact congrArg (fun fr=>GStep.go { frame:=fr,callers:=cs,status:=.running,dying:=none } w') hf
theorem stepA_skip(ho:ops[i]? =some o)(hw:Region.wanted o (yielded ops a.tmps)=true)(hd:∀c,o.op≠.defer c)(hr:(execOp a.eval o).run P w= .ok .skip w') :
  step P (lone (b.atR a (.inRegion ops (i::rest)::k)) cs w)= .next (lone (b.atR (a.put o.dst undef) (.inRegion ops rest::k)) cs w'):=by
 have hf:=Frame.finish_atR b a ops i rest k undef;rw[ho]at hf;refine step_lone_go ?_;rw[stepGR_op ho hw,Oper.semAt_eq _ _ _ hd];simp only[stepG.apply,Sem.runT_eq,hr,GStep.bare_after];exact congrArg (fun fr=>GStep.go { frame:=fr,callers:=cs,status:=.running,dying:=none } w') hf
theorem stepA_enter{f:FuncId}{args:Array Value}(ho:ops[i]? =some o)(hw:Region.wanted o (yielded ops a.tmps)=true)(hd:∀c,o.op≠.defer c)(hr:(execOp a.eval o).run P w= .ok (.enter f args) w') :
  step P (lone (b.atR a (.inRegion ops (i::rest)::k)) cs w)= .next (lone (Frame.enter P f args .normal) (b.atR a (.inRegion ops (i::rest)::k)::cs) w'):=by
 refine step_lone_go ?_;rw[stepGR_op ho hw,Oper.semAt_eq _ _ _ hd];simp[stepG.apply,Sem.runT_eq,hr,GStep.bare_after,Frame.atR]
theorem stepA_round{l:Nat}{f:FuncId}{tmps:Array Value}{assign body:Code}(ho:ops[i]? =some o)(hw:Region.wanted o (yielded ops a.tmps)=true)(hd:∀c,o.op≠.defer c)(hr:(execOp a.eval o).run P w= .ok (.round l f tmps assign body) w') :
  step P (lone (b.atR a (.inRegion ops (i::rest)::k)) cs w)= .next (lone (Frame.round l f tmps assign body .normal) (b.atR a (.inRegion ops (i::rest)::k)::cs) w'):=by
 refine step_lone_go ?_;rw[stepGR_op ho hw,Oper.semAt_eq _ _ _ hd];simp[stepG.apply,Sem.runT_eq,hr,GStep.bare_after,Frame.atR]
theorem stepA_panic{v:Value}(ho:ops[i]? =some o)(hw:Region.wanted o (yielded ops a.tmps)=true)(hd:∀c,o.op≠.defer c)(hr:(execOp a.eval o).run P w= .halt (.panic v) w') :
  step P (lone (b.atR a (.inRegion ops (i::rest)::k)) cs w)= .next (lone { b.atR a (.inRegion ops (i::rest)::k)with mode:=.panicking [{ v,recovered:=false }] } cs w'):=by
 refine step_lone_go ?_;rw[stepGR_op ho hw,Oper.semAt_eq _ _ _ hd];simp[stepG.apply,Sem.runT_eq,hr,GStep.bare_after,Frame.raise_atR]
theorem stepA_defer{d:Deferred}(ho:ops[i]? =some o)(hw:Region.wanted o (yielded ops a.tmps)=true)(hb:b.roundOf=none)(hr:(execOp a.eval o).run P w= .ok (.defer d) w') :
  step P (lone (b.atR a (.inRegion ops (i::rest)::k)) cs w)= .next (lone (b.atR ({ a with defers:=d::a.defers }.put o.dst undef) (.inRegion ops rest::k)) cs w'):=by
 have hf:=Frame.finish_atR b { a with defers:=d::a.defers } ops i rest k undef
 rw[ho]at hf;refine step_lone_go ?_;rw[stepGR_op ho hw,hb,Oper.semAt_none];simp only[stepG.apply,Sem.runT_eq,hr,GStep.bare_after];exact congrArg (fun fr=>GStep.go { frame:=fr,callers:=cs,status:=.running,dying:=none } w') hf
theorem stepA_recover{r:Option (Value×List Frame)}(ho:ops[i]? =some o)(hw:Region.wanted o (yielded ops a.tmps)=true)(hd:∀c,o.op≠.defer c)(hb:b.roundOf=none)(hr:(execOp a.eval o).run P w= .ok .recover w')
  (ht:tryRecover (b.atR a (.inRegion ops (i::rest)::k)) cs=r) :
  step P (lone (b.atR a (.inRegion ops (i::rest)::k)) cs w)= .next (lone (b.atR (a.put o.dst (match r with|some (v,_)=>v|none=>.nilIface)) (.inRegion ops rest::k)) (match r with|some (_,cs')=>cs' |none=>cs) w'):=by
 have hf:=fun v=>Frame.finish_atR b a ops i rest k v;simp only[ho]at hf;refine step_lone_go ?_;rw[stepGR_op ho hw,Oper.semAt_eq _ _ _ hd];have hro:(b.atR a (.inRegion ops (i::rest)::k)).roundOf=none:=hb;simp only[stepG.apply,Sem.runT_eq,hr,GStep.bare_after,hro,ht];cases r with
 |none=>exact congrArg (fun fr=>GStep.go { frame:=fr,callers:=cs,status:=.running,dying:=none } w') (hf _)
 |some p=>exact congrArg (fun fr=>GStep.go { frame:=fr,callers:=p.2,status:=.running,dying:=none } w') (hf _)
end steps
section
variable{P:Program}{w w':World}{C:Cfg}{lam:Nat->Option Nat}{ms:List Nat}{F:Fr}{b:Frame}{a:Act}{cs:List Frame}
theorem Fr.tmp_put(F:Fr)(d:Nat)(v:AV)(t:Tmp):(F.put (some d) v).tmp t=if d=t then v else F.tmp t:=by
 unfold Fr.tmp Fr.put;simp only[Mp.get_set];by_cases h:d=t<;>simp[h]
theorem getD_set(tmps:Array Value)(d t:Nat)(u:Value)(hd:d<tmps.size):(tmps.setIfInBounds d u).getD t undef=if d=t then u else tmps.getD t undef:=by
 simp only[Array.getD_eq_getD_getElem?,Array.getElem?_setIfInBounds];by_cases h:d=t
 ·subst h;simp[hd]
 ·simp[h]
theorem St.put(s:St C lam ms F b a w cs){d:Option Tmp}{v:AV}{u:Value}(r:SR C lam F.lm v u)(hd:∀t,d=some t->t<a.tmps.size):St C lam ms (F.put d v) b (a.put d u) w cs:=by
  cases d with
  |none=>exact s
  | some d =>
    exact { wr := s.wr, box := s.box, inj := s.inj, mark := s.mark, nodup := s.nodup, live := s.live, osig := s.osig, df := s.df, up := s.up, fn := s.fn, rnd := s.rnd,
            env:=fun t=>by
              rw[Fr.tmp_put];have:(a.put (some d) u).tmps.getD t undef=if d=t then u else a.tmps.getD t undef:=getD_set _ _ _ _ (hd d rfl)
              rw[this];split
              · exact r
              · exact s.env t }
theorem Act.put_size(a:Act)(d:Option Tmp)(u:Value):(a.put d u).tmps.size=a.tmps.size:=by cases d<;>simp[Act.put]
def muPush(C:Cfg)(id:Nat)(L:Loc):Cfg:={ C with mu:=fun j=>if j=id then some L else C.mu j }
theorem muPush_le(r:WR C F.hp w)(L:Loc):C.le (muPush C F.hp.next L):=
 ⟨fun id L' h=>by
  have:=r.fresh id L' h;simp only[muPush];rw[if_neg (by omega)];exact h,fun _ _ h=>h⟩
theorem Heap.get_new(h:Heap)(blk:Blk)(id:Nat):(h.new blk).get id=if h.next=id then some blk else h.get id:=by
 unfold Heap.new Heap.get;simp
theorem Heap.get_put(h:Heap)(id':Nat)(blk:Blk)(id:Nat):(h.put id' blk).get id=if id'=id then some blk else h.get id:=by
 unfold Heap.put Heap.get;simp
theorem Heap.get_del(h:Heap)(id' id:Nat):(h.del id').get id=if id'=id then none else h.get id:=by
 unfold Heap.del Heap.get;simp
theorem St.fresh (s : St C lam ms F b a w cs) {o : Obj} {blk : Blk} {L : Loc} (hh : w'.heap = w.heap.push o) (hos : w'.os = w.os) (htp : w'.tape = w.tape) (hout : w'.output = w.output)
    (hL:L.b=w.heap.size) (hbr:BR (muPush C F.hp.next L) w' L blk) :
    St (muPush C F.hp.next L) lam ms { F with hp:=F.hp.new blk } b a w' cs/\Ext C F.hp (Own lam ms) w (muPush C F.hp.next L) (F.hp.new blk) (Own lam ms) w':=by
  have hle:=muPush_le s.wr L;have old:∀id blk',(F.hp.new blk).get id=some blk'->id≠F.hp.next->F.hp.get id=some blk'/\(muPush C F.hp.next L).mu id=C.mu id:=fun id blk' h hn=>by
    rw[Heap.get_new,if_neg (fun e=>hn e.symm)]at h;exact⟨h,by simp[muPush,hn]⟩
  have new:∀blk',(F.hp.new blk).get F.hp.next=some blk'->blk'=blk/\(muPush C F.hp.next L).mu F.hp.next=some L:=fun blk' h=>by
    rw[Heap.get_new,if_pos rfl]at h;exact⟨by cases h;rfl,by simp[muPush]⟩
  have oldb:∀id blk' L',F.hp.get id=some blk'->C.mu id=some L'->L'.b<w.heap.size:=fun id blk' L' h1 h2=>s.wr.live_lt ⟨id,blk',L',h1,h2,rfl⟩;have hlive:∀ β,Live (muPush C F.hp.next L) (F.hp.new blk) β->Live C F.hp β \/ β=w.heap.size:=by
    rintro β ⟨id,blk',L',h1,h2,rfl⟩;by_cases hn:id=F.hp.next
    · subst hn
      obtain⟨_,e⟩:=new _ h1;rw[e]at h2;cases h2;exact .inr hL
    · obtain ⟨g1, g2⟩ := old _ _ h1 hn
      rw[g2]at h2;exact .inl ⟨id,blk',L',g1,h2,rfl⟩
  constructor
  · refine { wr := ⟨fun x v h => ?_, fun id blk' h => ?_, fun id id' blk1 blk2 L1 L2 h1 h2 h3 h4 h5 => ?_, fun id blk' L' x v h1 h2 h3 => ?_, fun id L' h => ?_, s.wr.base.on hle.sig (fun x v e => heap_push hh (s.wr.sig_lt e))⟩,
             env:=fun t=>(s.env t).mono hle,box:=fun t β ht=>?_,inj:=s.inj,mark:=fun m hm=>(heap_push hh (s.own_lt (.inr hm))).trans (s.mark m hm),nodup:=s.nodup,
             live:=fun β ho l=>?_,osig:=s.osig,df:=s.df.mono hle,up:=s.up.mono hle,fn:=s.fn,rnd:=s.rnd }
    · have hb := s.wr.sig_lt h
      have:=s.wr.sig x v h;unfold World.cell? at this ⊢;rw[heap_push hh hb];exact this
    · by_cases hn : id = F.hp.next
      · subst hn
        obtain⟨rfl,e⟩:=new _ h;exact⟨L,e,hbr⟩
      · obtain ⟨g1, g2⟩ := old _ _ h hn
        obtain⟨L',h1,h2⟩:=s.wr.blk id _ g1;exact⟨L',g2.trans h1,h2.same hle (heap_push hh h2.lt)⟩
    · by_cases hn : id = F.hp.next <;> by_cases hn' : id' = F.hp.next
      · rw[hn,hn']
      · subst hn
        obtain⟨_,e⟩:=new _ h1;rw[e]at h3;cases h3;obtain⟨g1,g2⟩:=old _ _ h2 hn';rw[g2]at h4;have:=oldb _ _ _ g1 h4;omega
      · subst hn'
        obtain⟨_,e⟩:=new _ h2;rw[e]at h4;cases h4;obtain⟨g1,g2⟩:=old _ _ h1 hn;rw[g2]at h3;have:=oldb _ _ _ g1 h3;omega
      · obtain ⟨g1, g2⟩ := old _ _ h1 hn
        obtain⟨k1,k2⟩:=old _ _ h2 hn';rw[g2]at h3;rw[k2]at h4;exact s.wr.inj id id' _ _ L1 L2 g1 k1 h3 h4 h5
    · by_cases hn : id = F.hp.next
      · subst hn
        obtain⟨_,e⟩:=new _ h1;rw[e]at h2;cases h2;have:=s.wr.sig_lt h3;omega
      · obtain ⟨g1, g2⟩ := old _ _ h1 hn
        rw[g2]at h2;exact s.wr.apart id _ L' x v g1 h2 h3
    · simp only [muPush] at h
      show id<F.hp.next+1;split at h
      · omega
      · have := s.wr.fresh id L' h
        omega
    · obtain ⟨g, cells, c, h1, h2, h3, h4⟩ := s.box t β ht
      exact⟨g,cells,c,h1,h2.same (heap_push hh h2.lt),h3.mono hle,h4⟩
    · rcases hlive β l with l | l
      · exact s.live β ho l
      · have := s.own_lt ho
        omega
  · exact { le := hle, os := hos, tape := htp, output := hout, size := by rw [hh]; simp, same := fun β h _ _ => heap_push hh h, live := fun β hb l => by
              rcases hlive β l with l|l
              · exact .inl l
              · omega
            own:=fun β _ o=>.inr o,sig:=fun x v hb h=>.inl h,next:=Nat.le_succ _ }
def oneV(v:Value):Bool:=match v with| .agg _| .tuple _=>false|_=>true
theorem run_storeCells{B O:Nat}:∀(l:List Value) (i:Nat) (w:World) (c:Array Value),isCells w B c->O+i+l.length <=c.size->(∀v∈l,oneV v=true)->
  ∃w',(storeCells ⟨B,O,none⟩ l i).run P w= .ok () w'/\isCells w' B (setMany c (O+i) l)/\w'.heap.size=w.heap.size/\(∀ β,β≠B->w'.heap[β]? =w.heap[β]?)/\w'.os=w.os/\w'.tape=w.tape/\w'.output=w.output:=by
 intro l;induction l with
 |nil=>intro i w c h _ _;exact⟨w,rfl,h,rfl,fun _ _=>rfl,rfl,rfl,rfl⟩
 | cons v l ih =>
  intro i w c h hle ho;simp at hle;have hlt:O+i<c.size:=by omega
  have hv:v.oneCell'=true:=by
   have:=ho v (by simp);cases v<;>simp[oneV]at this<;>rfl
  have hcell:w.cell? ⟨B,O+i,none⟩=some c[O+i]:=by rw[h.cell];simp[hlt]
  have hfr:=h.frozen hlt none;have hstore:(store ⟨B,O+i,none⟩ v).run P w= .ok () (w.setCell ⟨B,O+i,none⟩ v):=by
   rw[run_store P w _ v .plain hv,hcell];simp[hfr]
  have h1:isCells (w.setCell ⟨B,O+i,none⟩ v) B (c.setIfInBounds (O+i) v):=by
   obtain⟨T,lo,hi,g1,g2⟩:=h;refine⟨T,lo,hi,?_,by simpa using g2⟩;simp[World.setCell,Array.getElem?_modify,g1]
  obtain⟨w',e1,e2,e3,e4,e5,e6,e7⟩:=ih (i+1) _ _ h1 (by simp;omega) (fun u hu=>ho u (by simp[hu]));refine⟨w',?_,by rw[setMany];exact e2,by rw[e3];simp[World.setCell],fun β hb=>?_,e5,e6,e7⟩
  ·simp only[storeCells,addr_add,Sem.run_bind,hstore,Result.andThen_ok]
   exact e1
  ·rw[e4 β hb]
   simp only[World.setCell,Array.getElem?_modify];rw[if_neg (fun e=>hb e.symm)]
theorem one_of_VR{x:AV}{v:Value}(r:VR C x v)(h:x.one=true):oneV v=true:=by
 obtain⟨_,h2⟩:=r.oneCell h;cases v<;>simp_all [oneV]
theorem VRs.one_all{l:List AV}{vs:Array Value}(r:VRs C l vs)(h:∀x∈l,x.one=true):∀v∈vs.toList,oneV v=true:=by
 intro v hv;obtain⟨i,hi⟩:=List.mem_iff_getElem?.1 hv;have hlt:i<l.length:=by
  rcases Nat.lt_or_ge i l.length with h' |h'
  ·exact h'
  ·have:vs.toList.length=l.length:=by simpa using r.1
   rw[List.getElem?_eq_none (by omega)]at hi;cases hi
 obtain⟨u,hu,hr⟩:=r.get (i:=i) (a:=l[i]) (by simp[hlt]);have:vs.toList[i]? =some u:=by simpa using hu
 rw[hi]at this;cases this;exact one_of_VR hr (h _ (List.getElem_mem hlt))
end
end Go.AM
namespace Go.AM
open Go
variable[Keep]
section
variable{P:Program}{w w':World}{C:Cfg}{lam:Nat->Option Nat}{ms:List Nat}{F:Fr}{b:Frame}{a:Act}{cs:List Frame}
theorem WR.turn {h h' : Heap} {C' : Cfg} {id id' : Nat} {blk blk' : Blk} {L L' : Loc} (r : WR C h w) (hle : C.le C') (hsig : C'.sig = C.sig) (hg : h.get id = some blk) (hm : C.mu id = some L)
    (hget:∀j bj,h'.get j=some bj->(j≠id'/\j≠id/\h.get j=some bj/\∀Lj,C'.mu j=some Lj->C.mu j=some Lj)\/(j=id'/\bj=blk'))
    (hmu:C'.mu id'=some L') (hL:L'.b=L.b) (hnext:h.next <=h'.next) (hfresh:∀j Lj,C'.mu j=some Lj->j<h'.next)
    (hs:w'.heap.size=w.heap.size) (hsame:∀ β,β≠L.b->w'.heap[β]? =w.heap[β]?) (hbr:BR C' w' L' blk')
    (hos:w'.os=w.os) (htp:w'.tape=w.tape) (hout:w'.output=w.output) :
    WR C' h' w'/\Ext C h (fun _=>False) w C' h' (fun _=>False) w':=by
  have hlv:Live C h L.b:=⟨id,blk,L,hg,hm,rfl⟩;have hlive:∀ β,Live C' h' β->Live C h β:=by
    rintro β ⟨j,bj,Lj,h1,h2,rfl⟩;rcases hget j bj h1 with⟨_,_,g1,g2⟩|⟨rfl,_⟩
    · exact⟨j,bj,Lj,g1,g2 _ h2,rfl⟩
    · rw [hmu] at h2
      cases h2;rw[hL];exact hlv
  constructor
  · refine ⟨fun x v h => ?_, fun j bj h => ?_, fun j1 j2 b1 b2 L1 L2 h1 h2 h3 h4 h5 => ?_, fun j bj Lj x v h1 h2 h3 => ?_, hfresh, r.base.on hle.sig (fun x v e => hsame _ (r.apart id blk L x v hg hm e))⟩
    · rw [hsig] at h
      have hne:x.block≠L.b:=r.apart id blk L x v hg hm h;have:=r.sig x v h;unfold World.cell? at this ⊢;rw[hsame _ hne];exact this
    · rcases hget j bj h with ⟨_, g0, g1, g2⟩ | ⟨rfl, rfl⟩
      · obtain ⟨Lj, k1, k2⟩ := r.blk j bj g1
        refine⟨Lj,hle.mu _ _ k1,k2.same hle (hsame _ fun e=>g0 (r.inj j id bj blk Lj L g1 hg k1 hm e))⟩
      · exact⟨L',hmu,hbr⟩
    · rcases hget j1 b1 h1 with ⟨_, k0, k1, k2⟩ | ⟨rfl, _⟩ <;> rcases hget j2 b2 h2 with ⟨_, m0, m1, m2⟩ | ⟨rfl, _⟩
      · exact r.inj j1 j2 b1 b2 L1 L2 k1 m1 (k2 _ h3) (m2 _ h4) h5
      · rw [hmu] at h4
        cases h4;exact absurd (r.inj j1 id b1 blk L1 L k1 hg (k2 _ h3) hm (h5.trans hL)) k0
      · rw [hmu] at h3
        cases h3;exact absurd (r.inj j2 id b2 blk L2 L m1 hg (m2 _ h4) hm (h5.symm.trans hL)) m0
      · rfl
    · rw [hsig] at h3
      rcases hget j bj h1 with⟨_,_,g1,g2⟩|⟨rfl,_⟩
      · exact r.apart j bj Lj x v g1 (g2 _ h2) h3
      · rw [hmu] at h2
        cases h2;rw[hL];exact r.apart id blk L x v hg hm h3
  · exact { le := hle, os := hos, tape := htp, output := hout, size := by omega, same := fun β hb hl _ => hsame β fun e => hl (e ▸ hlv), live := fun β _ l => .inl (hlive β l), own := fun _ _ o => o.elim,
            sig:=fun x v _ h=>.inl (by rw[hsig]at h;exact h),next:=hnext }
theorem WR.put{h:Heap}{id:Nat}{blk blk':Blk}{L:Loc}(r:WR C h w)(hg:h.get id=some blk)(hm:C.mu id=some L)(hs:w'.heap.size=w.heap.size)(hsame:∀ β,β≠L.b->w'.heap[β]? =w.heap[β]?)
  (hbr:BR C w' L blk') (hos:w'.os=w.os) (htp:w'.tape=w.tape) (hout:w'.output=w.output) :
  WR C (h.put id blk') w'/\Ext C h (fun _=>False) w C (h.put id blk') (fun _=>False) w':=by
 refine WR.turn (id':=id) (L':=L) (blk':=blk') r (.refl C) rfl hg hm (fun j bj hj=>?_) hm rfl (Nat.le_refl _) (fun j Lj hj=>r.fresh j Lj hj) hs hsame hbr hos htp hout;rw[Heap.get_put]at hj;by_cases e:id=j
 ·rw[if_pos e]at hj
  exact .inr ⟨e.symm,by cases hj;rfl⟩
 ·rw[if_neg e]at hj
  exact .inl ⟨fun e'=>e e'.symm,fun e'=>e e'.symm,hj,fun _ h=>h⟩
theorem St.turn{C':Cfg}{h':Heap}(s:St C lam ms F b a w cs)(r:WR C' h' w'/\Ext C F.hp (fun _=>False) w C' h' (fun _=>False) w') :
  St C' lam ms { F with hp:=h' } b a w' cs/\Ext C F.hp (Own lam ms) w C' h' (Own lam ms) w':=⟨s.later r.1 r.2,r.2.wide _⟩
theorem WR.del{h:Heap}(r:WR C h w)(id:Nat):WR C (h.del id) w/\Ext C h (fun _=>False) w C (h.del id) (fun _=>False) w:=by
  have hget:∀j bj,(h.del id).get j=some bj->h.get j=some bj:=fun j bj hj=>by
    rw[Heap.get_del]at hj;split at hj
    · cases hj
    · exact hj
  refine⟨⟨r.sig,fun j bj hj=>r.blk j bj (hget j bj hj),fun j1 j2 b1 b2 L1 L2 h1 h2=>r.inj j1 j2 b1 b2 L1 L2 (hget _ _ h1) (hget _ _ h2),fun j bj Lj x v h1=>r.apart j bj Lj x v (hget _ _ h1),r.fresh,r.base⟩,?_⟩
  exact { le := .refl C, os := rfl, tape := rfl, output := rfl, size := Nat.le_refl _, same := fun _ _ _ _ => rfl, live := fun β _ ⟨j, bj, Lj, h1, h2, h3⟩ => .inl ⟨j, bj, Lj, hget _ _ h1, h2, h3⟩,
          own:=fun _ _ o=>o.elim,sig:=fun _ _ _ h=>.inl h,next:=Nat.le_refl _ }
def lamSet(lam:Nat->Option Nat)(s β:Nat):Nat->Option Nat:=fun t=>if t=s then some β else lam t
theorem SR.newBox{v:AV}{u:Value}{lm:Mp (Nat×List AV)}{s β:Nat}{cells:List AV}(h:SR C lam lm v u):SR C (lamSet lam s β) (lm.set s (nextGen lm s,cells)) v u:=by
 cases v<;>first|exact h|skip
 rename_i s' g off;obtain⟨g',cs',β',h1,h2,h3,h4⟩:=h;by_cases e:s=s'
 ·subst e
  refine⟨nextGen lm s,cells,β',by simp,?_,h3,fun e=>?_⟩
  ·simp[nextGen,h1];omega
  ·simp[nextGen,h1]at e;omega
 ·refine⟨g',cs',β',by simp[e,h1],h2,h3,fun e'=>?_⟩
  simp only[lamSet];rw[if_neg (fun e'=>e e'.symm)];exact h4 e'
theorem St.newBox (s : St C lam ms F b a w cs) {t : Nat} {cells : List AV} {c : Array Value} {T : TypeId} (hr : VRs C cells c) (h1 : ∀ x ∈ cells, x.one = true) :
    let w':World:={ w with heap:=w.heap.push (.cells c T) }
    let lam':=lamSet lam t w.heap.size
    let F':Fr:={ F with lm:=F.lm.set t (nextGen F.lm t,cells) }
    SR C lam' F'.lm (.lptr t (nextGen F.lm t) 0) (.pointer (some ⟨w.heap.size,0,none⟩))/\St C lam' ms F' b a w' cs/\Ext C F.hp (Own lam ms) w C F'.hp (Own lam' ms) w':=by
  intro w' lam' F';have hh:w'.heap=w.heap.push (.cells c T):=rfl;have hown:∀ β,Own lam' ms β->Own lam ms β \/ β=w.heap.size:=by
    rintro β (⟨t',ht⟩|h)
    · simp only [lam', lamSet] at ht
      split at ht
      · cases ht;exact .inr rfl
      · exact .inl (.inl ⟨t',ht⟩)
    · exact .inl (.inr h)
  refine⟨⟨nextGen F.lm t,cells,w.heap.size,by simp[F'],Nat.le_refl _,rfl,fun _=>by simp[lam',lamSet]⟩,?_,?_⟩
  · refine { wr := ⟨fun x v h => ?_, fun id blk h => ?_, s.wr.inj, s.wr.apart, s.wr.fresh, s.wr.base.on (fun _ _ e => e) (fun x v e => heap_push hh (s.wr.sig_lt e))⟩, env := fun t' => (s.env t').newBox, box := fun t' β ht => ?_, inj := fun t1 t2 β h1 h2 => ?_,
             mark:=fun m hm=>(heap_push hh (s.own_lt (.inr hm))).trans (s.mark m hm),nodup:=s.nodup,live:=fun β ho l=>?_,osig:=fun β x v ho h e=>?_,df:=s.df,up:=s.up,fn:=s.fn,rnd:=s.rnd }
    · have hb := s.wr.sig_lt h
      have:=s.wr.sig x v h;unfold World.cell? at this ⊢;rw[heap_push hh hb];exact this
    · obtain ⟨L, k1, k2⟩ := s.wr.blk id blk h
      exact⟨L,k1,k2.same (.refl C) (heap_push hh k2.lt)⟩
    · simp only [lam', lamSet] at ht
      split at ht
      · rename_i e
        subst e;cases ht;refine⟨nextGen F.lm t',cells,c,by simp[F'],⟨T,0,0,?_,.inl (Nat.le_refl _)⟩,hr,h1⟩;simp[w']
      · rename_i e
        obtain⟨g,cells',c',k1,k2,k3,k4⟩:=s.box t' β ht;exact⟨g,cells',c',(by show (F.lm.set t _).get t'=_;rw[Mp.get_set,if_neg (fun e'=>e (Eq.symm e'))];exact k1),k2.same (heap_push hh k2.lt),k3,k4⟩
    · simp only [lam', lamSet] at h1 h2
      split at h1<;>split at h2
      · rename_i e1 e2;rw[e1,e2]
      · cases h1
        have:=s.own_lt (.inl ⟨t2,h2⟩);omega
      · cases h2
        have:=s.own_lt (.inl ⟨t1,h1⟩);omega
      · exact s.inj t1 t2 β h1 h2
    · rcases hown β ho with ho | rfl
      · exact s.live β ho l
      · have := s.wr.live_lt l
        omega
    · rcases hown β ho with ho | rfl
      · exact s.osig β x v ho h e
      · have := s.wr.sig_lt h
        omega
  · exact { le := .refl C, os := rfl, tape := rfl, output := rfl, size := by simp [w'], same := fun β h _ _ => heap_push hh h, live := fun β _ l => .inl l, own := fun β hb o => by
              rcases hown β o with o|rfl
              · exact .inr o
              · omega
            sig:=fun _ _ _ h=>.inl h,next:=Nat.le_refl _ }
theorem St.writeBox (s : St C lam ms F b a w cs) {t g β : Nat} {cells cells' : List AV} {c' : Array Value} (hg : F.lm.get t = some (g, cells)) (hl : lam t = some β) (hr : VRs C cells' c') (h1 : ∀ x ∈ cells', x.one = true)
    (hc:isCells w' β c') (hs:w'.heap.size=w.heap.size) (hsame:∀ β',β'≠β->w'.heap[β']? =w.heap[β']?) (hos:w'.os=w.os) (htp:w'.tape=w.tape) (hout:w'.output=w.output) :
    St C lam ms { F with lm:=F.lm.set t (g,cells') } b a w' cs/\Ext C F.hp (Own lam ms) w C F.hp (Own lam ms) w':=by
  have hown:Own lam ms β:=.inl ⟨t,hl⟩;constructor
  · refine { wr := ⟨fun x v h => ?_, fun id blk h => ?_, s.wr.inj, s.wr.apart, s.wr.fresh, s.wr.base.on (fun _ _ e => e) (fun x v e => hsame _ (s.osig β x v hown e))⟩, env := fun t' => ?_, box := fun t' β' ht => ?_, inj := s.inj, mark := fun m hm => ?_, nodup := s.nodup, live := s.live, osig := s.osig, df := s.df, up := s.up, fn := s.fn, rnd := s.rnd }
    · have := s.wr.sig x v h
      unfold World.cell? at this ⊢;rw[hsame _ (s.osig β x v hown h)];exact this
    · obtain ⟨L, k1, k2⟩ := s.wr.blk id blk h
      exact⟨L,k1,k2.same (.refl C) (hsame _ fun e=>s.live β hown ⟨id,blk,L,h,k1,e⟩)⟩
    · have := s.env t'
      show SR C lam (F.lm.set t (g,cells')) (F.tmp t') _;revert this;cases F.tmp t'<;>intro this<;>first|exact this|skip
      rename_i s' g1 off;obtain⟨g',cs',β',k1,k2,k3,k4⟩:=this;by_cases e:t=s'
      · subst e
        rw[hg]at k1;cases k1;exact⟨g,cells',β',by simp,k2,k3,k4⟩
      · exact⟨g',cs',β',by simp[e,k1],k2,k3,k4⟩
    · by_cases e : t = t'
      · subst e
        rw[hl]at ht;cases ht;exact⟨g,cells',c',by simp,hc,hr,h1⟩
      · obtain ⟨g1, cells1, c1, k1, k2, k3, k4⟩ := s.box t' β' ht
        exact⟨g1,cells1,c1,by simp[e,k1],k2.same (hsame _ fun e'=>e (s.inj t t' β hl (e'▸ht))),k3,k4⟩
    · exact(hsame m fun e=>by
        obtain⟨g1,cells1,c1,k1,⟨T,lo,hi,k2,_⟩,_⟩:=s.box t β hl;have:=s.mark m hm;rw[e,k2]at this;cases this).trans (s.mark m hm)
  · exact { le := .refl C, os := hos, tape := htp, output := hout, size := by omega, same := fun β' _ _ ho => hsame β' fun e => ho (e ▸ hown), live := fun β _ l => .inl l, own := fun _ _ o => .inr o,
            sig:=fun _ _ _ h=>.inl h,next:=Nat.le_refl _ }
end
end Go.AM
