/-
  A part of the proof: contracts of functions.
-/
import Derived.Control
import Derived.AtR
namespace Go.AM
open Go
inductive Mp (α : Type) where
 | nil
 | node (v : Option α) (l r : Mp α)
variable {α : Type}
def Mp.get : Mp α -> Nat -> Option α
 | .nil, _ => none
 | .node v _ _, 0 => v
 | .node _ l r, k + 1 => bif Nat.beq (k % 2) 0 then l.get (k / 2) else r.get (k / 2)
def Mp.upd : Nat -> Mp α -> Nat -> Option α -> Mp α
 | 0, t, _, _ => t
 | _ + 1, .nil, 0, x => .node x .nil .nil
 | n + 1, .nil, k + 1, x => bif Nat.beq (k % 2) 0 then .node none (Mp.upd n .nil (k / 2) x) .nil else .node none .nil (Mp.upd n .nil (k / 2) x)
 | _ + 1, .node _ l r, 0, x => .node x l r
 | n + 1, .node v l r, k + 1, x => bif Nat.beq (k % 2) 0 then .node v (Mp.upd n l (k / 2) x) r else .node v l (Mp.upd n r (k / 2) x)
def Mp.map (f : α -> α) : Mp α -> Mp α
 | .nil => .nil
 | .node v l r => .node (match v with | some x => some (f x) | none => none) (l.map f) (r.map f)
def Mp.set (t : Mp α) (k : Nat) (x : α) : Mp α := Mp.upd (k + 1) t k (some x)
def Mp.del (t : Mp α) (k : Nat) : Mp α := Mp.upd (k + 1) t k none
inductive AV where
 | junk
 | bool (b : Bool)
 | int (k : IntKind) (n : Int)
 | str (s : List UInt8)
 | nilptr
 | ptr (id off : Nat)
 | eptr (id sz i j : Nat)
 | lptr (s g off : Nat)
 | vptr (cells : List AV)
 | nilslice
 | vslice (l : List AV)
 | vempty
 | row (id off len : Nat)
 | nilmap
 | map (id : Nat)
 | func (fn : Fn) (first captured : List AV)
 | yield (id : Nat)
 | nilfunc
 | niliface
 | iface (t : TypeId) (v : AV)
 | agg (cs : List AV)
 | tuple (vs : List AV)
 deriving Inhabited
def AV.cells : AV -> List AV
 | .agg cs => cs
 | v => [v]
def ofCells (f : Value -> Option AV) : List Value -> Option (List AV)
 | [] => some []
 | v :: r => match f v, ofCells f r with
  | some a, some l => some (a :: l)
  | _, _ => none
def scalarFn (fn : Fn) (a b : Array Value) : Option AV :=
 match fn with
 | .func f => if a.size = 0 /\ b.size = 0 then some (.func (.func f) [] []) else none
 | _ => none
def ofScalar : Value -> Option AV
 | .bool b => some (.bool b)
 | .int k n => some (.int k n)
 | .string s => some (.str s.data.toList)
 | .pointer none => some .nilptr
 | .slice none n c => if n = 0 /\ c = 0 then some .nilslice else none
 | .map none => some .nilmap
 | .nilFunc => some .nilfunc
 | .nilIface => some .niliface
 | .func fn a b => scalarFn fn a b
 | _ => none
def ofValue : Value -> Option AV
 | .agg cs => (ofCells ofScalar cs.toList).map .agg
 | .tuple cs => (ofCells ofScalar cs.toList).map .tuple
 | v => ofScalar v
inductive Blk where
 | var (cells : List AV)
 | rw (sz : Nat) (elems : List AV)
 | mp (entries : List (AV × AV))
 | loop (f : FuncId) (e : Mp AV) (params : List Tmp) (assign body : Code) (st : LoopState) (pend : Option Code)
 | iter (s : List UInt8) (pos : Nat)
structure Heap where
 next : Nat
 m : Mp Blk
def Heap.get (h : Heap) (id : Nat) : Option Blk := h.m.get id
def Heap.put (h : Heap) (id : Nat) (b : Blk) : Heap := { h with m := h.m.set id b }
def Heap.del (h : Heap) (id : Nat) : Heap := { h with m := h.m.del id }
def Heap.new (h : Heap) (b : Blk) : Heap := { next := h.next + 1, m := h.m.set h.next b }
structure Fr where
 f : FuncId
 rnd : Bool
 e : Mp AV
 lm : Mp (Nat × List AV)
 hp : Heap
 df : List (AV × List AV)
 up : Option (AV × Bool)
def undefA : AV := .tuple []
def Fr.tmp (F : Fr) (t : Tmp) : AV := match F.e.get t with | some v => v | none => undefA
def Fr.put (F : Fr) (d : Option Tmp) (v : AV) : Fr :=
 match d with
 | some t => { F with e := F.e.set t v }
 | none => F
def Fr.opd (F : Fr) : Operand -> Option AV
 | .tmp t => some (F.tmp t)
 | .const v => ofValue v
 | .func f => some (.func (.func f) [] [])
 | .global _ => none
def outer : AV -> Bool
 | .lptr .. | .junk => false
 | _ => true
def Fr.opv (F : Fr) (x : Operand) : Option AV :=
 match F.opd x with
 | some v => if outer v then some v else none
 | none => none
def Fr.opvs (F : Fr) : List Operand -> Option (List AV)
 | [] => some []
 | x :: r => match F.opv x, F.opvs r with
  | some a, some l => some (a :: l)
  | _, _ => none
def noBox : AV -> AV
 | .lptr .. => .junk
 | v => v
inductive COut where
 | ret (v : AV) (h : Heap) (up : Option (AV × Bool))
 | pan (v : AV) (h : Heap) (up : Option (AV × Bool))
 | fail
inductive Out where
 | norm (F : Fr)
 | exit (id : Nat) (F : Fr)
 | ret (F : Fr)
 | pan (v : AV) (F : Fr)
 | fail
abbrev Itr := FuncId -> Option (List AV -> Heap -> Option (AV × Heap))
structure Ctx where
 P : Program
 hts : FuncId -> List Tmp
 rws : FuncId -> List Tmp
 frz : FuncId -> Bool
 intr : Itr
def isAggT (P : Program) (t : TypeId) : Bool :=
 match P.underlying t with
 | some (.struct _) | some (.array _ _) => true
 | _ => false
def szT (P : Program) (t : TypeId) : Nat := match P.info? t with | some i => i.size | none => 0
def lay (P : Program) (t : TypeId) : Option (Bool × Nat) :=
 match P.underlying t, P.info? t with
 | some d, some i => some (match d with | .struct _ => true | .array _ _ => true | _ => false, i.size)
 | _, _ => none
def zeroT (P : Program) (t : TypeId) : Option AV := match P.info? t with | some i => (match i.zero with | some z => ofValue z | none => none) | none => none
def elemT (P : Program) (t : TypeId) : Option TypeId := match P.underlying t with | some (.slice e) => some e | _ => none
def Fr.mem (F : Fr) : AV -> Option (List AV × Nat)
 | .lptr s g off => match F.lm.get s with
  | some (g', cs) => if g = g' then some (cs, off) else none
  | none => none
 | .ptr id off => match F.hp.get id with
  | some (.var cs) => some (cs, off)
  | _ => none
 | .eptr id sz i j => match F.hp.get id with
  | some (.rw sz' el) => if sz = sz' then (match el[i]? with | some v => some (v.cells, j) | none => none) else none
  | _ => none
 | .vptr cs => some (cs, 0)
 | _ => none
def readAt (agg : Bool) (n : Nat) (cs : List AV) (off : Nat) : Option AV :=
 if agg then (if off + n <= cs.length then some (.agg ((cs.drop off).take n)) else none) else cs[off]?
def splice (cs : List AV) (off : Nat) (vs : List AV) : List AV := cs.take off ++ (vs ++ cs.drop (off + vs.length))
def readT (P : Program) (t : TypeId) (cs : List AV) (off : Nat) : Option AV :=
 match lay P t with
 | some (ag, n) => readAt ag n cs off
 | none => none
def asElem (agg : Bool) (cs : List AV) : AV := if agg then .agg cs else match cs with | v :: _ => v | [] => undefA
def isTuple : AV -> Bool | .tuple _ => true | _ => false
def isAggV : AV -> Bool | .agg _ => true | _ => false
def Fr.write (F : Fr) (p : AV) (vs : List AV) : Option Fr :=
 match p with
 | .lptr s g off => match F.lm.get s with
  | some (g', cs) => if g = g' /\ off + vs.length <= cs.length then some { F with lm := F.lm.set s (g, splice cs off vs) } else none
  | none => none
 | .ptr id off => match F.hp.get id with
  | some (.var cs) => if off + vs.length <= cs.length then some { F with hp := F.hp.put id (.var (splice cs off vs)) } else none
  | _ => none
 | .eptr id sz i j => match F.hp.get id with
  | some (.rw sz' el) => if sz = sz' then (match el[i]? with
   | some v => if j + vs.length <= v.cells.length then some { F with hp := F.hp.put id (.rw sz' (el.set i (asElem (isAggV v) (splice v.cells j vs)))) } else none
   | none => none) else none
  | _ => none
 | _ => none
def ptrAdd : AV -> Nat -> Option AV
 | .lptr s g off, n => some (.lptr s g (off + n))
 | .ptr id off, n => some (.ptr id (off + n))
 | .eptr id sz i j, n => some (.eptr id sz i (j + n))
 | .vptr cs, n => if n <= cs.length then some (.vptr (cs.drop n)) else none
 | _, _ => none
def Heap.elems (h : Heap) : AV -> Option (List AV)
 | .nilslice | .vempty => some []
 | .vslice l => some l
 | .row id off len => match h.get id with
  | some (.rw _ el) => if off + len <= el.length then some ((el.drop off).take len) else none
  | _ => none
 | _ => none
def frzCells (h : Heap) (f : Heap -> AV -> Option (AV × Heap)) : List AV -> Option (List AV × Heap)
 | [] => some ([], h)
 | v :: r => match f h v with
  | some (v', h') => (match frzCells h' f r with
   | some (l, h'') => some (v' :: l, h'')
   | none => none)
  | none => none
def frz1 (h : Heap) : AV -> Option (AV × Heap)
 | .row id off len => match h.get id with
  | some (.rw _ el) => if off + len <= el.length then some (.vslice ((el.drop off).take len), h.del id) else none
  | _ => none
 | v => some (v, h)
def frz2 (h : Heap) : AV -> Option (AV × Heap)
 | .agg cs => match frzCells h frz1 cs with | some (l, h') => some (.agg l, h') | none => none
 | v => frz1 h v
def freeze (h : Heap) : AV -> Option (AV × Heap)
 | .tuple vs => match frzCells h frz2 vs with | some (l, h') => some (.tuple l, h') | none => none
 | v => frz2 h v
mutual
def AV.same : AV -> AV -> Bool
 | .junk, .junk => true
 | .bool a, .bool b => a == b
 | .int k a, .int l b => k == l && a == b
 | .str a, .str b => a == b
 | .nilptr, .nilptr => true
 | .ptr a b, .ptr c d => a == c && b == d
 | .eptr a b c d, .eptr a' b' c' d' => a == a' && b == b' && c == c' && d == d'
 | .lptr a b c, .lptr a' b' c' => a == a' && b == b' && c == c'
 | .vptr a, .vptr b => AV.sameL a b
 | .nilslice, .nilslice => true
 | .vslice a, .vslice b => AV.sameL a b
 | .vempty, .vempty => true
 | .row a b c, .row a' b' c' => a == a' && b == b' && c == c'
 | .nilmap, .nilmap => true
 | .map a, .map b => a == b
 | .func f a b, .func g c d => f == g && AV.sameL a c && AV.sameL b d
 | .yield a, .yield b => a == b
 | .nilfunc, .nilfunc => true
 | .niliface, .niliface => true
 | .iface t a, .iface u b => t == u && AV.same a b
 | .agg a, .agg b => AV.sameL a b
 | .tuple a, .tuple b => AV.sameL a b
 | _, _ => false
def AV.sameL : List AV -> List AV -> Bool
 | [], [] => true
 | a :: l, b :: r => AV.same a b && AV.sameL l r
 | _, _ => false
end
def eqFields (f : TypeId -> AV -> AV -> Option Bool) (P : Program) (xs ys : List AV) : List Field -> Option Bool
 | [] => some true
 | fd :: r => if fd.name = "_" then eqFields f P xs ys r else
  match readT P fd.type xs fd.offset, readT P fd.type ys fd.offset with
  | some a, some b => (match f fd.type a b with
   | some true => eqFields f P xs ys r
   | some false => some false
   | none => none)
  | _, _ => none
def eqElems (f : TypeId -> AV -> AV -> Option Bool) (P : Program) (e : TypeId) (n : Nat) (xs ys : List AV) : List Nat -> Option Bool
 | [] => some true
 | i :: r => match readT P e xs (i * n), readT P e ys (i * n) with
  | some a, some b => (match f e a b with
   | some true => eqElems f P e n xs ys r
   | some false => some false
   | none => none)
  | _, _ => none
def eqT (P : Program) : Nat -> TypeId -> AV -> AV -> Option Bool
 | 0, _, _, _ => none
 | d + 1, t, x, y => match P.underlying t, x, y with
  | some .bool, .bool a, .bool b => some (a == b)
  | some (.int _), .int k a, .int k' b => if k = k' then some (a == b) else none
  | some .string, .str a, .str b => some (a == b)
  | some (.struct fs), .agg xs, .agg ys => if P.stoodInHeld t then none else eqFields (eqT P d) P xs ys fs.toList
  | some (.array n e), .agg xs, .agg ys => (match lay P e with
   | some (_, k) => eqElems (eqT P d) P e k xs ys (List.range n)
   | none => none)
  | _, _, _ => none
def eqDepth : Nat := 8
def isIfaceT (P : Program) (t : TypeId) : Bool := match P.underlying t with | some (.interface _) => true | _ => false
def isFuncT (P : Program) (t : TypeId) : Bool := match P.underlying t with | some (.func _ _ _) => true | _ => false
def isSliceT (P : Program) (t : TypeId) : Bool := match P.underlying t with | some (.slice _) => true | _ => false
def whenB (c : Bool) (b : Bool) : Option Bool := if c then some b else none
def eqV (P : Program) (t : TypeId) (c : Bool) (x y : AV) : Option Bool :=
 match x, y with
 | .niliface, .niliface => whenB (c && isIfaceT P t) true
 | .niliface, .iface _ _ => whenB (isIfaceT P t) false
 | .iface _ _, .niliface => whenB (isIfaceT P t) false
 | .nilfunc, .nilfunc => whenB (isFuncT P t) true
 | .nilfunc, .func _ _ _ => whenB (isFuncT P t) false
 | .func _ _ _, .nilfunc => whenB (isFuncT P t) false
 | .nilslice, .nilslice => whenB (isSliceT P t) true
 | .nilslice, .vslice _ => whenB (isSliceT P t) false
 | .vslice _, .nilslice => whenB (isSliceT P t) false
 | .nilslice, .vempty => whenB (isSliceT P t) false
 | .vempty, .nilslice => whenB (isSliceT P t) false
 | .nilslice, .row _ _ _ => whenB (isSliceT P t) false
 | .row _ _ _, .nilslice => whenB (isSliceT P t) false
 | .agg a, .agg b => if P.eqGuardType P.depth t then none else eqT P eqDepth t (.agg a) (.agg b)
 | .bool a, .bool b => eqT P eqDepth t (.bool a) (.bool b)
 | _, _ => none
def bitsV (op : BinOp) (k : IntKind) (a b : Int) : Option AV :=
 let x := BitVec.ofInt k.bits a
 let y := BitVec.ofInt k.bits b
 match op with
 | .and => some (.int k (k.wrap (x &&& y).toNat))
 | .or => some (.int k (k.wrap (x ||| y).toNat))
 | .xor => some (.int k (k.wrap (x ^^^ y).toNat))
 | .andNot => some (.int k (k.wrap (x &&& ~~~y).toNat))
 | _ => none
def intOp (op : BinOp) (k : IntKind) (a b : Int) : Option AV :=
 match op with
 | .add => some (.int k (k.wrap (a + b)))
 | .sub => some (.int k (k.wrap (a - b)))
 | .mul => some (.int k (k.wrap (a * b)))
 | .quo => if b = 0 then none else some (.int k (k.wrap (a.tdiv b)))
 | .rem => if b = 0 then none else some (.int k (a.tmod b))
 | .eql => some (.bool (a == b))
 | .neq => some (.bool (a != b))
 | .lss => some (.bool (decide (a < b)))
 | .leq => some (.bool (decide (a <= b)))
 | .gtr => some (.bool (decide (a > b)))
 | .geq => some (.bool (decide (a >= b)))
 | .shl => if b < 0 then none else some (.int k (k.wrap (a * 2 ^ min b.toNat k.bits)))
 | .shr => if b < 0 then none else some (.int k (a.fdiv (2 ^ min b.toNat k.bits)))
 | op => bitsV op k a b
def strOp (op : BinOp) (a b : List UInt8) : Option AV :=
 match op with
 | .add => if a.length + b.length <= 4294967296 then some (.str (a ++ b)) else none
 | .eql => some (.bool (a == b))
 | .neq => some (.bool !(a == b))
 | .lss => some (.bool (Op.bytesLess a b))
 | .leq => some (.bool (Op.bytesLess a b || a == b))
 | .gtr => some (.bool !(Op.bytesLess a b || a == b))
 | .geq => some (.bool !Op.bytesLess a b)
 | _ => none
def isShift : BinOp -> Bool | .shl | .shr => true | _ => false
def eqOp (P : Program) (op : BinOp) (t : TypeId) (c : Bool) (x y : AV) : Option AV :=
 match op with
 | .eql => (match eqV P t c x y with | some b => some (.bool b) | none => none)
 | .neq => (match eqV P t c x y with | some b => some (.bool !b) | none => none)
 | _ => none
def binV (P : Program) (op : BinOp) (t : TypeId) (c : Bool) (x y : AV) : Option AV :=
 match x, y with
 | .int k a, .int k' b => if k = k' \/ isShift op = true then intOp op k a b else none
 | .str a, .str b => strOp op a b
 | x, y => eqOp P op t c x y
def isConst : Operand -> Bool | .const _ => true | _ => false
def unV (op : UnOp) (x : AV) : Option AV :=
 match op, x with
 | .neg, .int k n => some (.int k (k.wrap (-n)))
 | .xor, .int k n => bitsV .xor k (if k.signed then -1 else k.max) n
 | .not, .bool b => some (.bool (!b))
 | _, _ => none
def convV (P : Program) (src dst : TypeId) (x : AV) : Option AV :=
 match P.underlying src, P.underlying dst, x with
 | some (.int _), some (.int k), .int _ n => some (.int k (k.wrap n))
 | some .string, some .string, .str s => some (.str s)
 | _, _, _ => none
def fieldOf (P : Program) (t : TypeId) (f : Nat) : Option (TypeId × Nat) :=
 match P.underlying t with
 | some (.struct fs) => (match fs[f]? with | some fd => some (fd.type, fd.offset) | none => none)
 | _ => none
def placeOf (P : Program) (t : TypeId) (i : Nat) : Option (Nat × Nat) :=
 match P.underlying t with
 | some (.struct fs) => (match fs[i]? with | some fd => some (fd.offset, szT P fd.type) | none => none)
 | some (.array _ e) => some (i * szT P e, szT P e)
 | _ => none
def partsKnown (P : Program) (t : TypeId) : Bool :=
 match P.underlying t with
 | some (.struct fs) => fs.toList.all fun fd => (P.info? fd.type).isSome
 | some (.array _ e) => (P.info? e).isSome
 | _ => false
def fillV (place : Nat -> Option (Nat × Nat)) (cells : List AV) : List (Nat × AV) -> Option (List AV)
 | [] => some cells
 | (i, v) :: rest => match place i with
  | none => none
  | some (off, size) => if v.cells.length = size /\ off + size <= cells.length /\ isTuple v = false then fillV place (splice cells off v.cells) rest else none
def fillE (cells : List AV) (size : Nat) : List (Nat × AV) -> Option (List AV)
 | [] => some cells
 | (i, v) :: rest => if v.cells.length = size /\ i < cells.length /\ isTuple v = false then fillE (cells.set i v) size rest else none
def Fr.parts (F : Fr) : List (Nat × Operand) -> Option (List (Nat × AV))
 | [] => some []
 | (i, x) :: r => match F.opv x, F.parts r with
  | some a, some l => some ((i, a) :: l)
  | _, _ => none
def idxV (i : AV) (n : Nat) : Option Nat :=
 match i with
 | .int _ i => if 0 <= i /\ i < (n : Int) then some i.toNat else none
 | _ => none
def boundV (i : Option (Option AV)) (dflt : Nat) (n : Nat) : Option Nat :=
 match i with
 | none => some dflt
 | some (some (.int _ i)) => if 0 <= i /\ i <= (n : Int) then some i.toNat else none
 | _ => none
def boundsV (n : Nat) (lo hi mx : Option (Option AV)) : Option (Nat × Nat × Bool) :=
 match mx with
 | none => (match boundV hi n n with
  | some h => (match boundV lo 0 h with | some l => some (l, h, false) | none => none)
  | none => none)
 | some m => (match boundV (some m) 0 n, hi with
  | some m, some hi => (match boundV (some hi) 0 m with
   | some h => (match boundV lo 0 h with | some l => some (l, h, decide (l = m)) | none => none)
   | none => none)
  | _, _ => none)
def headOk (m : Nat) : List AV -> Bool
 | [] => true
 | v :: _ => v.cells.length == m
def cutV (hp : Heap) (m : Nat) (x : AV) (l h : Nat) (top : Bool) : Option AV :=
 match x with
 | .nilslice => some .nilslice
 | .vempty => some .vempty
 | .vslice es => if top then some .vempty else if headOk m es then some (.vslice ((es.take h).drop l)) else none
 | .row id off _ => if top then some .vempty else (match hp.get id with
  | some (.rw sz _) => if sz = m then some (.row id (off + l) (h - l)) else none
  | _ => none)
 | _ => none
def lenS : AV -> Option Nat
 | .nilslice => some 0
 | .vempty => some 0
 | .vslice l => some l.length
 | .row _ _ len => some len
 | _ => none
def strCut (s : List UInt8) (lo hi : Option (Option AV)) : Option AV :=
 match boundsV s.length lo hi none with
 | some (l, h, _) => some (.str ((s.take h).drop l))
 | none => none
def sliceV (P : Program) (hp : Heap) (t : TypeId) (x : AV) (lo hi mx : Option (Option AV)) : Option AV :=
 match P.underlying t with
 | some .string => (match x, mx with
  | .str s, none => strCut s lo hi
  | _, _ => none)
 | some (.slice e) => (match lay P e, lenS x with
  | some (_, m), some n => (match boundsV n lo hi mx with
   | some (l, h, top) => cutV hp m x l h top
   | none => none)
  | _, _ => none)
 | _ => none
def indexAddrV (P : Program) (h : Heap) (t : TypeId) (x i : AV) : Option AV :=
 match P.underlying t with
 | some (.array n e) => (match idxV i n, lay P e with | some k, some (_, m) => ptrAdd x (k * m) | _, _ => none)
 | some (.slice e) => (match lay P e with
  | some (_, m) => (match x with
   | .vslice l => (match idxV i l.length with
    | some k => (match l[k]? with | some v => if v.cells.length = m then some (.vptr v.cells) else none | none => none)
    | none => none)
   | .row id off len => (match idxV i len, h.get id with
    | some k, some (.rw sz _) => if sz = m then some (.eptr id sz (off + k) 0) else none
    | _, _ => none)
   | _ => none)
  | none => none)
 | _ => none
def indexV (P : Program) (t : TypeId) (x i : AV) : Option AV :=
 match P.underlying t, x with
 | some (.array n e), .agg cs => (match idxV i n with | some k => (match lay P e with | some (ag, m) => readAt ag m cs (k * m) | none => none) | none => none)
 | some .string, .str s => (match idxV i s.length with | some k => (match s[k]? with | some b => some (.int .u8 b.toNat) | none => none) | none => none)
 | _, _ => none
def findV (P : Program) (kt : TypeId) (x : AV) : List (AV × AV) -> Option (Option AV)
 | [] => some none
 | (k, v) :: r => match eqT P eqDepth kt x k with
  | some true => some (some v)
  | some false => findV P kt x r
  | none => none
def scalarV : AV -> Bool | .bool _ | .int _ _ | .str _ => true | _ => false
def keyV : AV -> Bool
 | .agg cs => cs.all scalarV
 | v => scalarV v
def entriesV (h : Heap) (x : AV) : Option (List (AV × AV)) :=
 match x with
 | .nilmap => some []
 | .map id => (match h.get id with | some (.mp es) => some es | _ => none)
 | _ => none
def keyOf (P : Program) (kt : TypeId) (k : AV) : Bool := keyV k && (match eqT P eqDepth kt k k with | some true => true | _ => false)
def lookupV (P : Program) (h : Heap) (t : TypeId) (x i : AV) (ok : Bool) : Option AV :=
 match P.underlying t with
 | some (.map kt et) => if keyOf P kt i then
   (match entriesV h x with
   | some es => (match findV P kt i es with
    | some (some v) => some (if ok then .tuple [v, .bool true] else v)
    | some none => (match zeroT P et with | some z => some (if ok then .tuple [z, .bool false] else z) | none => none)
    | none => none)
   | none => none) else none
 | _ => none
def assertV (P : Program) (x : AV) (t : TypeId) (ok : Bool) : Option AV :=
 match P.underlying t with
 | some (.interface _) | none => none
 | _ => (match x with
  | .iface u v => if u = t then some (if ok then .tuple [v, .bool true] else v)
   else if ok then (match zeroT P t with | some z => some (.tuple [z, .bool false]) | none => none) else none
  | .niliface => if ok then (match zeroT P t with | some z => some (.tuple [z, .bool false]) | none => none) else none
  | _ => none)
def foldV (f : Int -> Int -> Int) (k : IntKind) (acc : Int) : List AV -> Option AV
 | [] => some (.int k acc)
 | .int _ n :: r => foldV f k (f acc n) r
 | _ => none
def minV (x y : Int) : Int := if y < x then y else x
def maxV (x y : Int) : Int := if y > x then y else x
def lenB (P : Program) (h : Heap) (t : TypeId) (x : AV) : Option AV :=
 match P.underlying t with
 | some .string => (match x with | .str s => some (.int .i64 s.length) | _ => none)
 | some (.slice _) => (match lenS x with | some n => some (.int .i64 n) | none => none)
 | some (.map _ _) => (match entriesV h x with | some es => some (.int .i64 es.length) | none => none)
 | some (.array n _) => some (.int .i64 n)
 | _ => none
def builtinV (P : Program) (h : Heap) (b : Builtin) (ts : List TypeId) (args : List AV) : Option AV :=
 match b with
 | .len => (match ts, args with | t :: _, [x] => lenB P h t x | _, _ => none)
 | .min => (match args with | .int k x :: r => foldV minV k x r | _ => none)
 | .max => (match args with | .int k x :: r => foldV maxV k x r | _ => none)
 | _ => none
def callEff (c : Call) : Bool :=
 match c.callee with
 | .builtin .len | .builtin .min | .builtin .max => false
 | _ => true
def isEff (op : Op) : Bool :=
 match op with
 | .store _ _ _ => true
 | .makeMap _ _ => true
 | .makeSlice _ _ _ => true
 | .mapUpdate _ _ _ _ => true
 | .range _ _ => true
 | .next _ _ => true
 | .defer _ => true
 | .panic _ => true
 | .box _ _ => true
 | .call c => callEff c
 | _ => false
def Fr.pickV (F : Fr) (c a b : Operand) : Option AV :=
 match F.opv c, F.opv a, F.opv b with
 | some (.bool true), some a, some _ => some a
 | some (.bool false), some _, some b => some b
 | _, _, _ => none
def Fr.allocV (F : Fr) (d : Option Tmp) : Option AV :=
 match d with
 | some s => (match F.lm.get s with | some (g, _) => some (.lptr s g 0) | none => none)
 | none => none
def Fr.buildV (P : Program) (F : Fr) (t : TypeId) (ps : List (Nat × Operand)) : Option AV :=
 if !partsKnown P t then none else
 match zeroT P t, F.parts ps with
 | some (.agg z), some l => (match fillV (placeOf P t) z l with | some cs => some (.agg cs) | none => none)
 | _, _ => none
def sliceOf (P : Program) (e : TypeId) (n : Nat) (z : AV) (l : List (Nat × AV)) : Option AV :=
 if n = 0 then (match l with | [] => some .vempty | _ => none) else
 if z.cells.length = szT P e /\ n * szT P e <= 65536 /\ isTuple z = false /\ szT P e ≠ 0 then (match fillE (List.replicate n z) (szT P e) l with | some cs => some (.vslice cs) | none => none) else none
def Fr.buildSliceV (P : Program) (F : Fr) (t : TypeId) (n : Nat) (ps : List (Nat × Operand)) : Option AV :=
 match elemT P t with
 | some e => (match zeroT P e, F.parts ps with
  | some z, some l => sliceOf P e n z l
  | _, _ => none)
 | none => none
def Fr.loadV (P : Program) (F : Fr) (t : TypeId) (a : Operand) : Option AV :=
 match F.opd a with
 | some p => (match F.mem p with | some (cs, off) => readT P t cs off | none => none)
 | none => none
def Fr.binV2 (P : Program) (F : Fr) (op : BinOp) (t : TypeId) (x y : Operand) : Option AV :=
 match F.opv x, F.opv y with
 | some a, some b => binV P op t (isConst x || isConst y) a b
 | _, _ => none
def Fr.unV1 (F : Fr) (op : UnOp) (x : Operand) : Option AV := match F.opv x with | some a => unV op a | none => none
def Fr.convV1 (P : Program) (F : Fr) (s t : TypeId) (x : Operand) : Option AV := match F.opv x with | some a => convV P s t a | none => none
def Fr.ifaceV (P : Program) (F : Fr) (t : TypeId) (x : Operand) : Option AV :=
 match P.underlying t, F.opv x with
 | some (.interface _), _ => none
 | some _, some a => some (.iface t a)
 | _, _ => none
def Fr.funcV (F : Fr) (fn : Fn) (first capt : List Operand) : Option AV :=
 match fn, F.opvs first, F.opvs capt with
 | .func f, some a, some b => some (.func (.func f) a b)
 | _, _, _ => none
def Fr.sliceV1 (P : Program) (F : Fr) (t : TypeId) (x : Operand) (lo hi mx : Option Operand) : Option AV :=
 match F.opv x with
 | some a => sliceV P F.hp t a (lo.map F.opv) (hi.map F.opv) (mx.map F.opv)
 | none => none
def Fr.fieldAddrV (P : Program) (F : Fr) (t : TypeId) (x : Operand) (f : Nat) : Option AV :=
 match F.opd x, fieldOf P t f with
 | some p, some (ft, off) => if szT P ft = 0 then none else ptrAdd p off
 | _, _ => none
def Fr.fieldV (P : Program) (F : Fr) (t : TypeId) (x : Operand) (f : Nat) : Option AV :=
 match F.opv x, fieldOf P t f with
 | some (.agg cs), some (ft, off) => readT P ft cs off
 | _, _ => none
def Fr.indexAddrV1 (P : Program) (F : Fr) (t : TypeId) (x i : Operand) : Option AV :=
 match F.opd x, F.opv i with
 | some a, some b => indexAddrV P F.hp t a b
 | _, _ => none
def Fr.indexV1 (P : Program) (F : Fr) (t : TypeId) (x i : Operand) : Option AV :=
 match F.opv x, F.opv i with
 | some a, some b => indexV P t a b
 | _, _ => none
def Fr.lookupV1 (P : Program) (F : Fr) (t : TypeId) (x i : Operand) (ok : Bool) : Option AV :=
 match F.opv x, F.opv i with
 | some a, some b => lookupV P F.hp t a b ok
 | _, _ => none
def Fr.nilCheckV (F : Fr) (x : Operand) : Option AV :=
 match F.opd x with
 | some (.lptr s g o) => some (.lptr s g o)
 | some (.ptr id o) => some (.ptr id o)
 | some (.eptr id sz i j) => some (.eptr id sz i j)
 | some (.vptr cs) => some (.vptr cs)
 | some (.func (.func f) a b) => some (.func (.func f) a b)
 | _ => none
def Fr.assertV1 (P : Program) (F : Fr) (x : Operand) (t : TypeId) (ok : Bool) : Option AV := match F.opv x with | some a => assertV P a t ok | none => none
def Fr.extractV (F : Fr) (t : Operand) (i : Nat) : Option AV := match F.opv t with | some (.tuple vs) => vs[i]? | _ => none
def Fr.builtinV1 (P : Program) (F : Fr) (b : Builtin) (args : List Operand) (ts : List TypeId) : Option AV :=
 match F.opvs args with
 | some l => builtinV P F.hp b ts l
 | none => none
def Fr.callRd (P : Program) (F : Fr) (c : Call) : Option AV :=
 match c.callee with
 | .builtin b => F.builtinV1 P b c.args.toList c.argTypes.toList
 | _ => none
def rdV (X : Ctx) (F : Fr) (d : Option Tmp) (op : Op) : Option AV :=
 match op with
 | .move x => F.opd x
 | .assign x => F.opd x
 | .pick c a b => F.pickV c a b
 | .alloc _ => F.allocV d
 | .build t ps => F.buildV X.P t ps.toList
 | .buildSlice t n ps => F.buildSliceV X.P t n ps.toList
 | .load t a => F.loadV X.P t a
 | .binOp op t x y _ => F.binV2 X.P op t x y
 | .unOp op _ x => F.unV1 op x
 | .convert s t x => F.convV1 X.P s t x
 | .makeInterface t x => F.ifaceV X.P t x
 | .makeFunc fn first capt => F.funcV fn first.toList capt.toList
 | .slice t x lo hi mx => F.sliceV1 X.P t x lo hi mx
 | .fieldAddr t x f => F.fieldAddrV X.P t x f
 | .field t x f => F.fieldV X.P t x f
 | .indexAddr t x i => F.indexAddrV1 X.P t x i
 | .index t x i => F.indexV1 X.P t x i
 | .lookup t x i ok => F.lookupV1 X.P t x i ok
 | .nilCheck x => F.nilCheckV x
 | .typeAssert x _ t ok => F.assertV1 X.P x t ok
 | .extract t i => F.extractV t i
 | .call c => F.callRd X.P c
 | _ => none
def nextGen (lm : Mp (Nat × List AV)) (s : Nat) : Nat := match lm.get s with | some (g, _) => g + 1 | none => 0
def newBox (X : Ctx) (F : Fr) (d : Option Tmp) (v : AV) : Option (AV × Fr) :=
 match d with
 | none => none
 | some s => if isTuple v then none else if (X.hts F.f).contains s then some (.ptr F.hp.next 0, { F with hp := F.hp.new (.var v.cells) }) else
  some (.lptr s (nextGen F.lm s) 0, { F with lm := F.lm.set s (nextGen F.lm s, v.cells) })
def most : Nat := 16777216
def rowable (P : Program) (e : TypeId) : Bool :=
 szT P e != 0 && (match P.info? e with | some i => decide (i.bytes <= 65536) | none => false) && (match zeroT P e with | some z => z.cells.length == szT P e && !isTuple z | none => false)
def appendV (P : Program) (F : Fr) (t : TypeId) (x : AV) (new : List AV) : Option (AV × Fr) :=
 match elemT P t with
 | none => none
 | some e =>
  if !(new.all fun v => v.cells.length == szT P e) || !rowable P e then none else
  if new.length = 0 then (match x with | .nilslice | .vempty | .vslice _ | .row _ _ _ => some (x, F) | _ => none) else
  match x with
  | .nilslice | .vempty => if new.length <= most then some (.row F.hp.next 0 new.length, { F with hp := F.hp.new (.rw (szT P e) new) }) else none
  | .row id off len => (match F.hp.get id with
   | some (.rw sz el) => if sz = szT P e /\ off + len = el.length /\ len + new.length <= most then
     some (.row F.hp.next 0 (len + new.length), { F with hp := (F.hp.del id).new (.rw sz (el.drop off ++ new)) }) else none
   | _ => none)
  | _ => none
def mapPut (P : Program) (kt : TypeId) (x v : AV) : List (AV × AV) -> Option (List (AV × AV))
 | [] => some [(x, v)]
 | (k, u) :: r => match eqT P eqDepth kt x k with
  | some true => if AV.same k x then some ((x, v) :: r) else none
  | some false => (match mapPut P kt x v r with | some l => some ((k, u) :: l) | none => none)
  | none => none
def methodOf (P : Program) (t : TypeId) (name : String) : Option FuncId :=
 match P.info? t, P.underlying t with
 | some _, some (.pointer _) => none
 | some i, some _ => (match i.methods.find? (·.name == name) with
  | some m => if m.path.isEmpty then (match m.func with | some (f, false) => some f | _ => none) else none
  | none => none)
 | _, _ => none
inductive OOut where
 | val (v : AV) (F : Fr)
 | pan (v : AV) (F : Fr)
 | fail
def callV (cl : FuncId -> List AV -> Heap -> COut) (rd : Nat -> List AV -> Heap -> COut) (fv : AV) (args : List AV) (h : Heap) : COut :=
 match fv with
 | .func (.func f) first capt => cl f ((first ++ args) ++ capt) h
 | .yield id => rd id args h
 | _ => .fail
def outOf (F : Fr) : COut -> OOut
 | .ret v h _ => .val v { F with hp := h }
 | .pan v h _ => .pan v { F with hp := h }
 | .fail => .fail
def okO (r : Option (AV × Fr)) : OOut := match r with | some (v, F) => .val v F | none => .fail
def Fr.allocE (X : Ctx) (F : Fr) (d : Option Tmp) (t : TypeId) : OOut :=
 match zeroT X.P t with
 | some z => okO (newBox X F d z)
 | none => .fail
def Fr.boxE (X : Ctx) (F : Fr) (d : Option Tmp) (x : Operand) : OOut :=
 match F.opv x with
 | some a => okO (newBox X F d a)
 | none => .fail
def Fr.storeE (P : Program) (F : Fr) (t : TypeId) (a x : Operand) : OOut :=
 match F.opd a, F.opv x with
 | some p, some v => (match lay P t with
  | some (_, n) => if v.cells.length = n /\ isTuple v = false then (match F.write p v.cells with | some F' => .val undefA F' | none => .fail) else .fail
  | none => .fail)
 | _, _ => .fail
def Fr.rowE (P : Program) (F : Fr) (t : TypeId) (n : Nat) (ps : List (Nat × Operand)) : OOut :=
 match elemT P t, F.buildSliceV P t n ps with
 | some e, some (.vslice l) => .val (.row F.hp.next 0 l.length) { F with hp := F.hp.new (.rw (szT P e) l) }
 | _, _ => .fail
def Fr.mapE (F : Fr) (r : Option Operand) : OOut :=
 match r with
 | none => .val (.map F.hp.next) { F with hp := F.hp.new (.mp []) }
 | some _ => .fail
def Fr.makeSliceE (P : Program) (F : Fr) (t : TypeId) (l c : Operand) : OOut :=
 match elemT P t, F.opv l, F.opv c with
 | some e, some (.int _ n), some (.int _ m) => (match zeroT P e, P.info? e with
  | some z, some i => if 0 <= n /\ n <= m /\ m <= most /\ i.bytes <= 65536 /\ z.cells.length = szT P e /\ isTuple z = false /\ szT P e ≠ 0 then
    .val (.row F.hp.next 0 n.toNat) { F with hp := F.hp.new (.rw (szT P e) (List.replicate n.toNat z)) } else .fail
  | _, _ => .fail)
 | _, _, _ => .fail
def Fr.mapUpdateE (P : Program) (F : Fr) (t : TypeId) (m k v : Operand) : OOut :=
 match P.underlying t, F.opv m, F.opv k, F.opv v with
 | some (.map kt _), some (.map id), some k, some v => if keyOf P kt k then
   (match F.hp.get id with
   | some (.mp es) => (match mapPut P kt k v es with | some es' => .val undefA { F with hp := F.hp.put id (.mp es') } | none => .fail)
   | _ => .fail) else .fail
 | _, _, _, _ => .fail
def Fr.rangeE (P : Program) (F : Fr) (t : TypeId) (x : Operand) : OOut :=
 match P.underlying t, F.opv x with
 | some .string, some (.str s) => .val (.ptr F.hp.next 0) { F with hp := F.hp.new (.iter s 0) }
 | _, _ => .fail
def Fr.nextE (F : Fr) (it : Operand) (isString : Bool) : OOut :=
 match isString, F.opv it with
 | true, some (.ptr id 0) => (match F.hp.get id with
  | some (.iter s pos) => if pos < s.length then
    (let r := Utf8.decode ⟨s.toArray⟩ pos
    .val (.tuple [.bool true, .int .i64 pos, .int .i32 r.1]) { F with hp := F.hp.put id (.iter s (pos + r.2)) })
    else .val (.tuple [.bool false]) F
  | _ => .fail)
 | _, _ => .fail
def Fr.deferE (F : Fr) (c : Call) : OOut :=
 match c.callee, F.rnd with
 | .value f, false => (match F.opv f, F.opvs c.args.toList with
  | some (.func (.func g) first capt), some l => .val undefA { F with df := (.func (.func g) first capt, l) :: F.df }
  | _, _ => .fail)
 | _, _ => .fail
def Fr.panicE (F : Fr) (x : Operand) : OOut :=
 match F.opv x with
 | some (.iface t v) => .pan (.iface t v) F
 | _ => .fail
def Fr.callE (cl : FuncId -> List AV -> Heap -> COut) (rd : Nat -> List AV -> Heap -> COut) (F : Fr) (f : Operand) (args : List Operand) : OOut :=
 match F.opv f, F.opvs args with
 | some fv, some l => outOf F (callV cl rd fv l F.hp)
 | _, _ => .fail
def Fr.invokeE (P : Program) (cl : FuncId -> List AV -> Heap -> COut) (F : Fr) (x : Operand) (name : String) (args : List Operand) : OOut :=
 match F.opv x, F.opvs args with
 | some (.iface t v), some l => (match methodOf P t name with
  | some f => outOf F (cl f (v :: l) F.hp)
  | none => .fail)
 | _, _ => .fail
def Fr.appendE (P : Program) (F : Fr) (ts : List TypeId) (args : List Operand) : OOut :=
 match ts, F.opvs args with
 | t :: u :: _, some [x, y] => (match P.underlying u with
  | some .string => (match y with
   | .str s => okO (appendV P F t x (s.map fun b => .int .u8 b.toNat))
   | _ => .fail)
  | some (.slice _) => (match y with
   | .str _ => .fail
   | y => (match F.hp.elems y with | some new => okO (appendV P F t x new) | none => .fail))
  | _ => .fail)
 | _, _ => .fail
def Fr.recoverE (F : Fr) : OOut :=
 if F.rnd then .fail else
 match F.up with
 | some (v, false) => .val v { F with up := some (v, true) }
 | _ => .val .niliface F
def Fr.builtinE (P : Program) (F : Fr) (b : Builtin) (args : List Operand) (ts : List TypeId) : OOut :=
 match b with
 | .append => F.appendE P ts args
 | .panic => (match args with | [x] => F.panicE x | _ => .fail)
 | .recover => (match args with | [] => F.recoverE | _ => .fail)
 | _ => .fail
def Fr.callOp (X : Ctx) (cl : FuncId -> List AV -> Heap -> COut) (rd : Nat -> List AV -> Heap -> COut) (F : Fr) (c : Call) : OOut :=
 match c.callee with
 | .value f => F.callE cl rd f c.args.toList
 | .invoke x name => F.invokeE X.P cl x name c.args.toList
 | .builtin b => F.builtinE X.P b c.args.toList c.argTypes.toList
def efV (X : Ctx) (cl : FuncId -> List AV -> Heap -> COut) (rd : Nat -> List AV -> Heap -> COut) (F : Fr) (d : Option Tmp) (op : Op) : OOut :=
 match op with
 | .alloc t => F.allocE X d t
 | .box _ x => F.boxE X d x
 | .store t a x => F.storeE X.P t a x
 | .buildSlice t n ps => F.rowE X.P t n ps.toList
 | .makeMap _ r => F.mapE r
 | .makeSlice t l c => F.makeSliceE X.P t l c
 | .mapUpdate t m k v => F.mapUpdateE X.P t m k v
 | .range t x => F.rangeE X.P t x
 | .next it s => F.nextE it s
 | .defer c => F.deferE c
 | .panic x => F.panicE x
 | .call c => F.callOp X cl rd c
 | _ => .fail
def yieldedA (ops : Array Oper) (F : Fr) (j : Nat) : Option Bool :=
 match ops[j]? with
 | some o => (match o.dst with
  | some t => (match F.e.get t with | some (.bool b) => some b | _ => none)
  | none => none)
 | none => none
def wantedA (ops : Array Oper) (F : Fr) (o : Oper) : Bool :=
 match o.guard with
 | none => true
 | some (j, want) => yieldedA ops F j == some want
def guardOk (ops : Array Oper) (F : Fr) (o : Oper) : Bool :=
 match o.guard with
 | none => true
 | some (j, _) => (match ops[j]? with
  | some o => (match o.dst with
   | some t => (match F.e.get t with | some .junk => false | _ => true)
   | none => true)
  | none => true)
def isEffAt (X : Ctx) (f : FuncId) (o : Oper) : Bool :=
 match o.op with
 | .alloc _ => true
 | .buildSlice _ _ _ => (match o.dst with | some d => (X.rws f).contains d | none => false)
 | op => isEff op
def stepOp (X : Ctx) (cl : FuncId -> List AV -> Heap -> COut) (rd : Nat -> List AV -> Heap -> COut) (ops : Array Oper) (o : Oper) (F : Fr) : OOut :=
 if !guardOk ops F o then .fail else
 if wantedA ops F o then
  (if isEffAt X F.f o then (match efV X cl rd F o.dst o.op with
   | .val v F' => .val v (F'.put o.dst v)
   | r => r)
  else (match rdV X F o.dst o.op with
   | some v => .val v (F.put o.dst v)
   | none => .fail))
 else .val undefA (F.put o.dst undefA)
def runOps (X : Ctx) (cl : FuncId -> List AV -> Heap -> COut) (rd : Nat -> List AV -> Heap -> COut) (ops : Array Oper) : List Oper -> Fr -> Out
 | [], F => .norm F
 | o :: r, F => match stepOp X cl rd ops o F with
  | .val _ F' => runOps X cl rd ops r F'
  | .pan v F' => .pan v F'
  | .fail => .fail
def looksAt (ops : Array Oper) (o : Oper) : List Tmp :=
  (o.op.operands.toList.filterMap fun | .tmp t => some t | _ => none) ++
  (match o.guard with
   | some (g, _) => (match ops[g]? with | some p => p.dst.toList | none => [])
   | none => [])
def apartT (ops : Array Oper) (x y : Oper) : Bool :=
  (match x.dst with
   | some d => !(looksAt ops y).contains d && y.dst != some d
   | none => true) &&
  (match y.dst with
   | some d => !(looksAt ops x).contains d
   | none => true)
def isAlloc (o : Oper) : Bool := match o.op with | .alloc _ => true | _ => false
def isEffD (X : Ctx) (f : FuncId) (o : Oper) : Bool := !isAlloc o && isEffAt X f o
def canon (ops : Array Oper) : List Nat :=
 (List.range ops.size).filter (fun i => match ops[i]? with | some o => isAlloc o | none => false) ++
 (List.range ops.size).filter (fun i => match ops[i]? with | some o => !isAlloc o | none => false)
def waits (ops : Array Oper) (j i : Nat) : Bool := ((Region.before ops).getD j 0).testBit i
def loosePairs (w : Nat -> Nat -> Bool) : List Nat -> List (Nat × Nat)
 | [] => []
 | i :: r => (r.filter fun j => !w j i).map (fun j => (i, j)) ++ loosePairs w r
def shapeOk (X : Ctx) (f : FuncId) (ops : Array Oper) : Bool :=
 (List.range ops.size).all fun i => match ops[i]? with
  | some o => o.after.all (fun e => decide (e.on < i) || !Region.binds .any e) &&
    (match o.op with
     | .alloc _ => o.guard.isNone && o.after.isEmpty && (match o.dst with | some d => !(X.hts f).contains d | none => false)
     | .box .. | .defer _ => false
     | _ => true)
  | none => false
def pairOk (X : Ctx) (f : FuncId) (ops : Array Oper) (p : Nat × Nat) : Bool :=
 match ops[p.1]?, ops[p.2]? with
 | some x, some y => apartT ops x y && !(isEffD X f x && isEffD X f y)
 | _, _ => false
def mayRead (o : Oper) : Bool :=
 match o.op with
 | .load _ _ => true
 | .lookup _ _ _ _ => true
 | .indexAddr _ _ _ => true
 | .slice _ _ _ _ _ => true
 | .call _ => true
 | _ => false
def hotPair (X : Ctx) (f : FuncId) (ops : Array Oper) (p : Nat × Nat) : Bool :=
 match ops[p.1]?, ops[p.2]? with
 | some x, some y => isEffD X f x && mayRead y || mayRead x && isEffD X f y
 | _, _ => false
def drawOk (X : Ctx) (f : FuncId) (ops : Array Oper) : Bool :=
 shapeOk X f ops && (loosePairs (waits ops) (canon ops)).all (pairOk X f ops)
def hotPairs (X : Ctx) (f : FuncId) (ops : Array Oper) : List (Nat × Nat) := (loosePairs (waits ops) (canon ops)).filter (hotPair X f ops)
def prepAll (X : Ctx) : List Oper -> Fr -> Option Fr
 | [], F => some F
 | o :: r, F => match o.op, o.dst with
  | .alloc t, some s => (match zeroT X.P t with
   | some z => if isTuple z then none else prepAll X r { F with lm := F.lm.set s (nextGen F.lm s, z.cells) }
   | none => none)
  | .alloc _, none => none
  | _, _ => prepAll X r F
def stepD (X : Ctx) (cl : FuncId -> List AV -> Heap -> COut) (rd : Nat -> List AV -> Heap -> COut) (ops : Array Oper) (o : Oper) (F : Fr) : OOut :=
 if isAlloc o then (match rdV X F o.dst o.op with
  | some v => .val v (F.put o.dst v)
  | none => .fail) else stepOp X cl rd ops o F
structure Trace where
 before : Fr
 val : AV
 after : Fr
inductive DOut where
 | norm (F : Fr) (ts : List (Nat × Trace))
 | pan (i : Nat) (v : AV) (F : Fr) (ts : List (Nat × Trace))
 | fail
def runD (X : Ctx) (cl : FuncId -> List AV -> Heap -> COut) (rd : Nat -> List AV -> Heap -> COut) (ops : Array Oper) : List Nat -> Fr -> DOut
 | [], F => .norm F []
 | i :: r, F => match ops[i]? with
  | none => .fail
  | some o => (match stepD X cl rd ops o F with
   | .val v F' => (match runD X cl rd ops r F' with
    | .norm F'' ts => .norm F'' ((i, ⟨F, v, F'⟩) :: ts)
    | .pan j u F'' ts => .pan j u F'' ((i, ⟨F, v, F'⟩) :: ts)
    | .fail => .fail)
   | .pan v F' => .pan i v F' []
   | .fail => .fail)
def traceOf (ts : List (Nat × Trace)) (i : Nat) : Option Trace :=
 match ts with
 | [] => none
 | (j, t) :: r => if i = j then some t else traceOf r i
def rereads (X : Ctx) (ops : Array Oper) (o : Oper) (t : Trace) (M : Fr) : Bool :=
 if wantedA ops t.before o then
  (match rdV X { t.before with lm := M.lm, hp := M.hp } o.dst o.op with | some v => AV.same v t.val | none => false)
 else true
def calmPair (X : Ctx) (f : FuncId) (ops : Array Oper) (ts : List (Nat × Trace)) (p : Nat × Nat) : Bool :=
 match ops[p.1]?, ops[p.2]?, traceOf ts p.1, traceOf ts p.2 with
 | some x, some y, some t, some u => if isEffD X f x then rereads X ops y u t.before else rereads X ops x t u.after
 | _, _, _, _ => true
def junkAll : List Oper -> Fr -> Fr
 | [], F => F
 | o :: r, F => junkAll r (F.put o.dst .junk)
def drawOkF (X : Ctx) (f : FuncId) (ops : Array Oper) : Bool := match f with | 0 => drawOk X 0 ops | m + 1 => drawOk X (m + 1) ops
def hotPairsF (X : Ctx) (f : FuncId) (ops : Array Oper) : List (Nat × Nat) := match f with | 0 => hotPairs X 0 ops | m + 1 => hotPairs X (m + 1) ops
theorem drawOkF_eq (X : Ctx) (f : FuncId) (ops : Array Oper) : drawOkF X f ops = drawOk X f ops := by cases f <;> rfl
theorem hotPairsF_eq (X : Ctx) (f : FuncId) (ops : Array Oper) : hotPairsF X f ops = hotPairs X f ops := by cases f <;> rfl
def runDraw (X : Ctx) (cl : FuncId -> List AV -> Heap -> COut) (rd : Nat -> List AV -> Heap -> COut) (ops : Array Oper) (F : Fr) : Out :=
 if !drawOkF X F.f ops then .fail else
 match prepAll X ops.toList F with
 | none => .fail
 | some F0 => (match runD X cl rd ops (canon ops) F0 with
  | .norm F' ts => if (hotPairsF X F.f ops).all (calmPair X F.f ops ts) then .norm F' else .fail
  | .pan i v F' ts => if (hotPairsF X F.f ops).all (calmPair X F.f ops ts) && (canon ops).all (fun j => j == i || waits ops j i || (traceOf ts j).isSome) then .pan v (junkAll ops.toList F') else .fail
  | .fail => .fail)
theorem runDraw_eq (X : Ctx) (cl : FuncId -> List AV -> Heap -> COut) (rd : Nat -> List AV -> Heap -> COut) (ops : Array Oper) (F : Fr) : runDraw X cl rd ops F =
 (if !drawOk X F.f ops then .fail else
 match prepAll X ops.toList F with
 | none => .fail
 | some F0 => (match runD X cl rd ops (canon ops) F0 with
  | .norm F' ts => if (hotPairs X F.f ops).all (calmPair X F.f ops ts) then .norm F' else .fail
  | .pan i v F' ts => if (hotPairs X F.f ops).all (calmPair X F.f ops ts) && (canon ops).all (fun j => j == i || waits ops j i || (traceOf ts j).isSome) then .pan v (junkAll ops.toList F') else .fail
  | .fail => .fail)) := by
 unfold runDraw
 rw [drawOkF_eq, hotPairsF_eq]
def setParams : List Tmp -> List AV -> Mp AV -> Option (Mp AV)
 | [], [], e => some e
 | t :: ts, v :: vs, e => setParams ts vs (e.set t v)
 | _, _, _ => none
def endV (id : Nat) (F : Fr) (st : LoopState) (pend : Option Code) (v : Bool) : COut :=
 match F.hp.get id with
 | some (.loop f e params assign body _ _) => .ret (.bool v) (F.hp.put id (.loop f e params assign body st pend)) none
 | _ => .fail
def roundEnd (P : Program) (id : Nat) : Out -> COut
 | .norm F => endV id F .ready none true
 | .exit i F => endV id F .done (some (.exit i)) false
 | .ret F => endV id F .done (some .ret) false
 | .pan v F => if F.df.isEmpty && (P.funcs[F.f]?).isSome then .pan v F.hp none else .fail
 | .fail => .fail
def roundV (X : Ctx) (ev : Code -> Fr -> Out) (id : Nat) (args : List AV) (h : Heap) : COut :=
 match h.get id with
 | some (.loop f e params assign body .ready _) => (match setParams params args e with
  | none => .fail
  | some e' => (match ev assign { f, rnd := true, e := e', lm := .nil, hp := h, df := [], up := none } with
   | .norm F1 => (match F1.hp.get id with
    | some (.loop f1 e1 params1 assign1 body1 .ready p) => roundEnd X.P id (ev body { F1 with hp := F1.hp.put id (.loop f1 e1 params1 assign1 body1 .busy p) })
    | _ => .fail)
   | _ => .fail))
 | _ => .fail
def entryEnv (args : List AV) : Nat -> Mp AV -> Mp AV :=
 match args with
 | [] => fun _ e => e
 | v :: r => fun i e => entryEnv r (i + 1) (e.set i v)
def resultV (P : Program) (F : Fr) : ResultVar -> Option AV
 | .tmp t => F.opv (.tmp t)
 | .cell a t => (match F.mem (F.tmp a) with | some (cs, off) => readT P t cs off | none => none)
def resultsV (P : Program) (F : Fr) : List ResultVar -> Option (List AV)
 | [] => some []
 | r :: rs => match resultV P F r, resultsV P F rs with
  | some v, some l => some (v :: l)
  | _, _ => none
def dstsLt (nt : Nat) (ops : List Oper) : Bool := ops.all fun o => match o.dst with | some d => Nat.blt d nt | none => true
def codeOk (nt : Nat) : Code -> Bool
 | .region _ ops _ => dstsLt nt ops.toList
 | .seq a b => codeOk nt a && codeOk nt b
 | .cond _ a b => codeOk nt a && codeOk nt b
 | .block _ b => codeOk nt b
 | .loop b => codeOk nt b
 | .scope b => codeOk nt b
 | .rangeFunc _ ps a b => (ps.toList.all fun p => Nat.blt p nt) && (codeOk nt a && codeOk nt b)
 | _ => true
def bodyV (X : Ctx) (ev : Code -> Fr -> Out) (f : FuncId) (args : List AV) (h : Heap) (up : Option (AV × Bool)) : Out :=
 match X.P.funcs[f]? with
 | none => .fail
 | some fn => (match fn.body with
  | none => .fail
  | some c => if fn.ntmps < args.length \/ codeOk fn.ntmps c = false then .fail else ev c { f, rnd := false, e := entryEnv args 0 .nil, lm := .nil, hp := h, df := [], up })
def dbodyV (X : Ctx) (ev : Code -> Fr -> Out) (g : FuncId) (args : List AV) (h : Heap) (up : Option (AV × Bool)) : Out :=
 match X.P.funcs[g]? with
 | some fn => if fn.results.isEmpty then bodyV X ev g args h up else .fail
 | none => .fail
def stillUp : Option (AV × Bool) -> Option AV
 | some (v, false) => some v
 | _ => none
def deferV (X : Ctx) (ev : Code -> Fr -> Out) : List (AV × List AV) -> Heap -> Option AV -> Option (Heap × Option AV)
 | [], h, st => some (h, st)
 | (.func (.func g) first capt, args) :: r, h, st =>
  (match dbodyV X ev g ((first ++ args) ++ capt) h (st.map fun v => (v, false)) with
  | .norm F => if F.df.isEmpty then deferV X ev r F.hp (stillUp F.up) else none
  | .ret F => if F.df.isEmpty then deferV X ev r F.hp (stillUp F.up) else none
  | _ => none)
 | _, _, _ => none
def tupleOf : List AV -> AV
 | [v] => v
 | l => .tuple l
def frzRes (X : Ctx) (f : FuncId) (h : Heap) (v : AV) : COut :=
 if X.frz f then (match freeze h v with | some (v', h') => .ret v' h' none | none => .fail) else .ret v h none
def resV (X : Ctx) (f : FuncId) (F : Fr) : COut :=
 match X.P.funcs[f]? with
 | none => .fail
 | some fn => (match resultsV X.P F fn.results.toList with
  | none => .fail
  | some l => frzRes X f F.hp (tupleOf l))
def finV (X : Ctx) (ev : Code -> Fr -> Out) (f : FuncId) (F : Fr) (st : Option AV) : COut :=
 match deferV X ev F.df F.hp st with
 | none => .fail
 | some (h', some v) => .pan v h' none
 | some (h', none) => resV X f { F with hp := h', df := [] }
def callF (X : Ctx) (ev : Code -> Fr -> Out) (f : FuncId) (args : List AV) (h : Heap) : COut :=
 match X.intr f with
 | some g => (match g args h with | some (v, h') => .ret v h' none | none => .fail)
 | none => (match bodyV X ev f args h none with
  | .norm F => finV X ev f F none
  | .ret F => finV X ev f F none
  | .pan v F => finV X ev f F (some v)
  | _ => .fail)
def evStep (X : Ctx) (ev : Code -> Fr -> Out) (c : Code) (F : Fr) : Out :=
 match c with
 | .skip | .label _ => .norm F
 | .seq a b => (match ev a F with | .norm F' => ev b F' | o => o)
 | .cond c a b => (match F.opd c with | some (.bool true) => ev a F | some (.bool false) => ev b F | _ => .fail)
 | .block id b => (match ev b F with | .exit i F' => if i = id then .norm F' else .exit i F' | o => o)
 | .loop body => (match ev body F with | .norm F' => ev (.loop body) F' | o => o)
 | .scope b => ev b F
 | .exit id => .exit id F
 | .ret => .ret F
 | .region _ ops draw => if draw then runDraw X (callF X ev) (roundV X ev) ops F else runOps X (callF X ev) (roundV X ev) ops ops.toList F
 | .rangeFunc g params assign body => (if F.rnd then .fail else match F.opv g with
  | some (.func (.func fid) first capt) =>
   let id := F.hp.next
   (match callF X ev fid ((first ++ [.yield id]) ++ capt) (F.hp.new (.loop F.f (F.e.map noBox) params.toList assign body .ready none)) with
   | .ret _ h _ => (match h.get id with
    | some (.loop f e ps a b st pend) => if st = .busy then .fail else
     (let F' := { F with hp := h.put id (.loop f e ps a b .exhausted pend) }
     match pend with
     | none => .norm F'
     | some .ret => .ret F'
     | some (.exit i) => .exit i F'
     | _ => .fail)
    | _ => .fail)
   | _ => .fail)
  | _ => .fail)
 | _ => .fail
def ev (X : Ctx) : Nat -> Code -> Fr -> Out
 | 0 => fun _ _ => .fail
 | n + 1 => evStep X (ev X n)
end Go.AM
set_option linter.unusedSimpArgs false
namespace Go.AM
open Go
variable {α : Type}
theorem beq00 : Nat.beq 0 0 = true := rfl
theorem beq10 : Nat.beq 1 0 = false := rfl
@[simp] theorem Mp.get_nil (j : Nat) : (Mp.nil : Mp α).get j = none := by cases j <;> rfl
theorem Mp.get_upd : ∀ (n : Nat) (t : Mp α) (k : Nat) (x : Option α) (j : Nat), k < n -> (Mp.upd n t k x).get j = if k = j then x else t.get j := by
 intro n
 induction n with
 | zero => intro t k x j h; omega
 | succ n ih =>
  intro t k x j h
  cases k with
  | zero => cases t <;> cases j <;> simp [Mp.upd, Mp.get]
  | succ k =>
   have hk : k / 2 < n := by omega
   cases j with
   | zero => rcases Nat.mod_two_eq_zero_or_one k with hm | hm <;> cases t <;> simp [Mp.upd, Mp.get, hm, beq00, beq10]
   | succ j =>
    rcases Nat.mod_two_eq_zero_or_one k with hm | hm <;> rcases Nat.mod_two_eq_zero_or_one j with hj | hj
    ·have e : (k / 2 = j / 2) ↔ (k + 1 = j + 1) := by omega
     cases t <;> simp [Mp.upd, Mp.get, hm, hj, beq00, ih _ _ _ _ hk, e]
    ·have e : ¬ (k + 1 = j + 1) := by omega
     cases t <;> simp [Mp.upd, Mp.get, hm, hj, beq00, beq10, e]
     all_goals (intro; omega)
    ·have e : ¬ (k + 1 = j + 1) := by omega
     cases t <;> simp [Mp.upd, Mp.get, hm, hj, beq00, beq10, e]
     all_goals (intro; omega)
    ·have e : (k / 2 = j / 2) ↔ (k + 1 = j + 1) := by omega
     cases t <;> simp [Mp.upd, Mp.get, hm, hj, beq10, ih _ _ _ _ hk, e]
@[simp] theorem Mp.get_set (t : Mp α) (k : Nat) (x : α) (j : Nat) : (t.set k x).get j = if k = j then some x else t.get j := Mp.get_upd _ _ _ _ _ (Nat.lt_succ_self k)
@[simp] theorem Mp.get_del (t : Mp α) (k j : Nat) : (t.del k).get j = if k = j then none else t.get j := Mp.get_upd _ _ _ _ _ (Nat.lt_succ_self k)
theorem Mp.get_map (f : α -> α) (t : Mp α) : ∀ j, (t.map f).get j = (t.get j).map f := by
 induction t with
 | nil => intro j; cases j <;> rfl
 | node v l r ihl ihr =>
  intro j
  cases j with
  | zero => cases v <;> rfl
  | succ k => rcases Nat.mod_two_eq_zero_or_one k with hm | hm <;> simp [Mp.map, Mp.get, hm, ihl, ihr, beq00, beq10]
structure Loc where
 b : Nat
 o : Nat
 sz : Nat
 tot : Nat
structure Cfg where
 mu : Nat -> Option Loc
 sig : Addr -> Option Value
structure Cfg.le (C D : Cfg) : Prop where
 mu : ∀ id L, C.mu id = some L -> D.mu id = some L
 sig : ∀ a v, C.sig a = some v -> D.sig a = some v
theorem Cfg.le.refl (C : Cfg) : C.le C := ⟨fun _ _ h => h, fun _ _ h => h⟩
theorem Cfg.le.trans {C D E : Cfg} (h : C.le D) (k : D.le E) : C.le E := ⟨fun _ _ e => k.mu _ _ (h.mu _ _ e), fun _ _ e => k.sig _ _ (h.sig _ _ e)⟩
def AV.one : AV -> Bool
 | .agg _ | .tuple _ | .junk | .lptr _ _ _ => false
 | _ => true
inductive VR (C : Cfg) : AV -> Value -> Prop
 | bool (b : Bool) : VR C (.bool b) (.bool b)
 | int (k : IntKind) (n : Int) : VR C (.int k n) (.int k n)
 | str (s : List UInt8) : VR C (.str s) (.string ⟨⟨s⟩⟩)
 | nilptr : VR C .nilptr (.pointer none)
 | ptr {id off : Nat} {L : Loc} : C.mu id = some L -> VR C (.ptr id off) (.pointer (some ⟨L.b, L.o + off, none⟩))
 | eptr {id sz i j : Nat} {L : Loc} : C.mu id = some L -> VR C (.eptr id sz i j) (.pointer (some ⟨L.b, L.o + i * sz + j, none⟩))
 | vptr {cs : List AV} {b o : Nat} (vs : Nat -> Value) : (∀ k, k < cs.length -> C.sig ⟨b, o + k, none⟩ = some (vs k)) -> (∀ k, k < cs.length -> VR C (cs.getD k .junk) (vs k)) -> (∀ c ∈ cs, c.one = true) ->
   VR C (.vptr cs) (.pointer (some ⟨b, o, none⟩))
 | nilslice : VR C .nilslice (.slice none 0 0)
 | vslice {l : List AV} {sz b o cap : Nat} (vs : Nat -> Nat -> Value) : l.length <= cap -> (∀ e ∈ l, e.cells.length = sz) -> (∀ i j, i < l.length -> j < sz -> C.sig ⟨b, o + i * sz + j, none⟩ = some (vs i j)) ->
   (∀ i j, i < l.length -> j < sz -> VR C ((l.getD i .junk).cells.getD j .junk) (vs i j)) -> (∀ e ∈ l, ∀ c ∈ e.cells, c.one = true) -> VR C (.vslice l) (.slice (some ⟨b, o, none⟩) l.length cap)
 | vslice0 (a : Addr) (cap : Nat) : VR C (.vslice []) (.slice (some a) 0 cap)
 | vempty (a : Addr) : VR C .vempty (.slice (some a) 0 0)
 | row {id off len cap : Nat} {L : Loc} (a : Addr) : C.mu id = some L -> len <= cap -> (cap = 0 \/ a = ⟨L.b, L.o + off * L.sz, none⟩) -> L.o + (off + cap) * L.sz <= L.tot -> VR C (.row id off len) (.slice (some a) len cap)
 | nilmap : VR C .nilmap (.map none)
 | map {id : Nat} {L : Loc} : C.mu id = some L -> VR C (.map id) (.map (some L.b))
 | func {f : FuncId} {first capt : List AV} {vs ws : Array Value} : vs.size = first.length -> (∀ i, i < first.length -> VR C (first.getD i .junk) (vs.getD i undef)) ->
   ws.size = capt.length -> (∀ i, i < capt.length -> VR C (capt.getD i .junk) (ws.getD i undef)) -> VR C (.func (.func f) first capt) (.func (.func f) vs ws)
 | yield {id : Nat} {L : Loc} : C.mu id = some L -> VR C (.yield id) (.func (.yield L.b) #[] #[])
 | nilfunc : VR C .nilfunc .nilFunc
 | niliface : VR C .niliface .nilIface
 | iface {t : TypeId} {v : AV} {u : Value} : VR C v u -> VR C (.iface t v) (.iface t u)
 | agg {cs : List AV} {vs : Array Value} : vs.size = cs.length -> (∀ i, i < cs.length -> VR C (cs.getD i .junk) (vs.getD i undef)) -> (∀ c ∈ cs, c.one = true) -> VR C (.agg cs) (.agg vs)
 | tuple {l : List AV} {vs : Array Value} : vs.size = l.length -> (∀ i, i < l.length -> VR C (l.getD i .junk) (vs.getD i undef)) -> VR C (.tuple l) (.tuple vs)
theorem VR.mono {C D : Cfg} (h : C.le D) {a : AV} {v : Value} (r : VR C a v) : VR D a v := by
 induction r with
 | bool b => exact .bool b
 | int k n => exact .int k n
 | str s => exact .str s
 | nilptr => exact .nilptr
 | ptr e => exact .ptr (h.mu _ _ e)
 | eptr e => exact .eptr (h.mu _ _ e)
 | vptr vs h1 _ h3 ih => exact .vptr vs (fun k hk => h.sig _ _ (h1 k hk)) ih h3
 | nilslice => exact .nilslice
 | vslice vs h1 h2 h3 _ h5 ih => exact .vslice vs h1 h2 (fun i j hi hj => h.sig _ _ (h3 i j hi hj)) ih h5
 | vslice0 a cap => exact .vslice0 a cap
 | vempty a => exact .vempty a
 | row a h1 h2 h3 h4 => exact .row a (h.mu _ _ h1) h2 h3 h4
 | nilmap => exact .nilmap
 | map e => exact .map (h.mu _ _ e)
 | func h1 _ h3 _ ih1 ih2 => exact .func h1 ih1 h3 ih2
 | yield e => exact .yield (h.mu _ _ e)
 | nilfunc => exact .nilfunc
 | niliface => exact .niliface
 | iface _ ih => exact .iface ih
 | agg h1 _ h3 ih => exact .agg h1 ih h3
 | tuple h1 _ ih => exact .tuple h1 ih
theorem VR.outer {C : Cfg} {a : AV} {v : Value} (r : VR C a v) : outer a = true := by cases r <;> rfl
theorem VR.oneCell {C : Cfg} {a : AV} {v : Value} (r : VR C a v) (h : a.one = true) : v.cells = #[v] /\ (match v with | .agg _ | .tuple _ => False | _ => True) := by
 cases r <;> simp_all [AV.one, Value.cells]
def VRs (C : Cfg) (l : List AV) (vs : Array Value) : Prop := vs.size = l.length /\ ∀ i, i < l.length -> VR C (l.getD i .junk) (vs.getD i undef)
theorem VRs.mono {C D : Cfg} (h : C.le D) {l : List AV} {vs : Array Value} (r : VRs C l vs) : VRs D l vs := ⟨r.1, fun i hi => (r.2 i hi).mono h⟩
theorem VRs.nil (C : Cfg) : VRs C [] #[] := ⟨rfl, fun i hi => by simp at hi⟩
theorem VRs.get {C : Cfg} {l : List AV} {vs : Array Value} (r : VRs C l vs) {i : Nat} {a : AV} (h : l[i]? = some a) : ∃ v, vs[i]? = some v /\ VR C a v := by
 have hi : i < l.length := by
  rcases Nat.lt_or_ge i l.length with h' | h'
  ·exact h'
  ·simp [List.getElem?_eq_none h'] at h
 have hv := r.2 i hi
 have hi2 : i < vs.size := by rw [r.1]; exact hi
 refine ⟨vs[i], by simp [hi2], ?_⟩
 have e1 : l.getD i .junk = a := by simp [List.getD, h]
 have e2 : vs.getD i undef = vs[i] := by simp [Array.getD, hi2]
 rw [e1, e2] at hv
 exact hv
theorem VRs.append {C : Cfg} {l r : List AV} {vs us : Array Value} (h : VRs C l vs) (k : VRs C r us) : VRs C (l ++ r) (vs ++ us) := by
 refine ⟨by simp [h.1, k.1], fun i hi => ?_⟩
 by_cases hl : i < l.length
 ·have hv : i < vs.size := by rw [h.1]; exact hl
  have := h.2 i hl
  simpa [List.getD, Array.getD, List.getElem?_append, hl, hv, Array.getElem_append, Nat.lt_add_right] using this
 ·have hv : ¬ i < vs.size := by rw [h.1]; exact hl
  have hi' : i - l.length < r.length := by simp at hi; omega
  have := k.2 (i - l.length) hi'
  have hu : i - vs.size < us.size := by rw [h.1, k.1]; exact hi'
  have hs : i < vs.size + us.size := by omega
  have e1 : (l ++ r).getD i .junk = r.getD (i - l.length) .junk := by simp [List.getD, List.getElem?_append, hl]
  have e2 : (vs ++ us).getD i undef = us.getD (i - vs.size) undef := by simp [Array.getD, hu, hs, hv, Array.getElem_append]
  rw [e1, e2, h.1]
  exact this
theorem VRs.cons {C : Cfg} {a : AV} {l : List AV} {v : Value} {vs : Array Value} (h : VR C a v) (k : VRs C l vs) : VRs C (a :: l) (#[v] ++ vs) :=
 VRs.append (l := [a]) ⟨rfl, fun i hi => by
  have : i = 0 := by simp at hi; exact hi
  subst this
  simpa using h⟩ k
theorem VR.cells {C : Cfg} {a : AV} {v : Value} (r : VR C a v) (ht : ∀ l, a ≠ .tuple l) : VRs C a.cells v.cells /\ ∀ c ∈ a.cells, c.one = true := by
 cases r with
 | agg h1 h2 h3 => exact ⟨⟨h1, h2⟩, h3⟩
 | tuple => exact absurd rfl (ht _)
 | _ =>
  refine ⟨⟨rfl, fun i hi => ?_⟩, by simp [AV.cells, AV.one]⟩
  have : i = 0 := by simpa [AV.cells] using hi
  subst this
  first
   | exact .bool _ | exact .int _ _ | exact .str _ | exact .nilptr | exact .nilslice | exact .vslice0 _ _ | exact .vempty _ | exact .nilmap | exact .nilfunc | exact .niliface
   | (simpa [AV.cells, Value.cells, List.getD, Array.getD] using by constructor <;> assumption)
   | (simp only [AV.cells, Value.cells, List.getD, Array.getD]; simp; first | exact .ptr ‹_› | exact .eptr ‹_› | exact .vptr _ ‹_› ‹_› ‹_› | exact .vslice _ ‹_› ‹_› ‹_› ‹_› ‹_› | exact .row _ ‹_› ‹_› ‹_› ‹_› | exact .map ‹_› | exact .func ‹_› ‹_› ‹_› ‹_› | exact .yield ‹_› | exact .iface ‹_›)
end Go.AM
set_option linter.unusedVariables false
set_option linter.unusedSectionVars false
namespace Go.AM
open Go
class Keep where
 sig : Addr -> Option Value
 obj : Nat -> Option Obj
variable [Keep]
def isCells (w : World) (b : Nat) (c : Array Value) : Prop := ∃ T lo hi, w.heap[b]? = some (.cells c T (lo, hi)) /\ (hi <= lo \/ c.size <= lo)
theorem isCells.cell {w : World} {b : Nat} {c : Array Value} (h : isCells w b c) (o : Nat) : w.cell? ⟨b, o, none⟩ = c[o]? := by
 obtain ⟨T, lo, hi, h, _⟩ := h
 simp [World.cell?, h]
theorem isCells.frozen {w : World} {b : Nat} {c : Array Value} (h : isCells w b c) {o : Nat} (ho : o < c.size) (s : Option Nat) : w.frozen? ⟨b, o, s⟩ = false := by
 obtain ⟨T, lo, hi, h, h2⟩ := h
 simp [World.frozen?, h]
 omega
theorem isCells.lt {w : World} {b : Nat} {c : Array Value} (h : isCells w b c) : b < w.heap.size := by
 obtain ⟨T, lo, hi, h, _⟩ := h
 rcases Nat.lt_or_ge b w.heap.size with h' | h'
 ·exact h'
 ·simp [Array.getElem?_eq_none h'] at h
theorem isCells.same {w w' : World} {b : Nat} {c : Array Value} (h : isCells w b c) (e : w'.heap[b]? = w.heap[b]?) : isCells w' b c := by
 obtain ⟨T, lo, hi, h, h2⟩ := h
 exact ⟨T, lo, hi, e.trans h, h2⟩
def tmpV (e : Mp AV) (t : Tmp) : AV := match e.get t with | some v => v | none => undefA
def SR (C : Cfg) (lam : Nat -> Option Nat) (lm : Mp (Nat × List AV)) (a : AV) (v : Value) : Prop :=
 match a with
 | .junk => True
 | .lptr s g off => ∃ g' cs β, lm.get s = some (g', cs) /\ g <= g' /\ v = .pointer (some ⟨β, off, none⟩) /\ (g = g' -> lam s = some β)
 | a => VR C a v
theorem SR.of {C : Cfg} {lam : Nat -> Option Nat} {lm : Mp (Nat × List AV)} {a : AV} {v : Value} (h : VR C a v) : SR C lam lm a v := by
 cases h <;> (unfold SR; first | exact .bool _ | exact .int _ _ | exact .str _ | exact .nilptr | exact .ptr ‹_› | exact .eptr ‹_› | exact .vptr _ ‹_› ‹_› ‹_› | exact .nilslice | exact .vslice _ ‹_› ‹_› ‹_› ‹_› ‹_› | exact .vslice0 _ _ | exact .vempty _ | exact .row _ ‹_› ‹_› ‹_› ‹_› | exact .nilmap | exact .map ‹_› | exact .func ‹_› ‹_› ‹_› ‹_› | exact .yield ‹_› | exact .nilfunc | exact .niliface | exact .iface ‹_› | exact .agg ‹_› ‹_› ‹_› | exact .tuple ‹_› ‹_›)
theorem SR.out {C : Cfg} {lam : Nat -> Option Nat} {lm : Mp (Nat × List AV)} {a : AV} {v : Value} (h : SR C lam lm a v) (ho : outer a = true) : VR C a v := by
 cases a <;> first | exact h | simp [outer] at ho
theorem SR.mono {C D : Cfg} (hle : C.le D) {lam : Nat -> Option Nat} {lm : Mp (Nat × List AV)} {a : AV} {v : Value} (h : SR C lam lm a v) : SR D lam lm a v := by
 cases a <;> first | exact h | exact VR.mono hle h
def BR (C : Cfg) (w : World) (L : Loc) : Blk -> Prop
 | .var cells => ∃ c, isCells w L.b c /\ L.o = 0 /\ VRs C cells c /\ ∀ x ∈ cells, x.one = true
 | .rw sz elems => ∃ c, isCells w L.b c /\ L.sz = sz /\ L.tot = c.size /\ L.o + elems.length * sz <= c.size /\
   ∀ (i : Nat) (e : AV), elems[i]? = some e -> e.cells.length = sz /\ (∀ x ∈ e.cells, x.one = true) /\ ∀ (j : Nat) (x : AV), e.cells[j]? = some x -> ∃ v, c[L.o + i * sz + j]? = some v /\ VR C x v
 | .mp entries => ∃ (es : Array MapEntry) (clock : Nat), w.heap[L.b]? = some (.map es clock) /\ es.size = entries.length /\ ∀ (i : Nat) (k v : AV), entries[i]? = some (k, v) -> ∃ e : MapEntry, es[i]? = some e /\ VR C k e.key /\ VR C v e.val
 | .loop f e ps assign body st pend => ∃ l, w.heap[L.b]? = some (.loop l) /\ l.fn = f /\ l.params.toList = ps /\ l.assign = assign /\ l.body = body /\ l.state = st /\ l.pending = pend /\
   codeOk l.tmps.size assign = true /\ codeOk l.tmps.size body = true /\ (∀ p ∈ ps, p < l.tmps.size) /\ ∀ t, SR C (fun _ => none) .nil (tmpV e t) (l.tmps.getD t undef)
 | .iter s pos => w.heap[L.b]? = some (.stringIter ⟨⟨s⟩⟩ pos) /\ L.o = 0
def Live (C : Cfg) (h : Heap) (b : Nat) : Prop := ∃ id blk L, h.get id = some blk /\ C.mu id = some L /\ L.b = b
def Base (C : Cfg) (w : World) : Prop := (∀ x v, Keep.sig x = some v -> C.sig x = some v) /\ ∀ x v o, Keep.sig x = some v -> Keep.obj x.block = some o -> w.heap[x.block]? = some o
theorem Base.on {C D : Cfg} {w w' : World} (b : Base C w) (hle : ∀ x v, C.sig x = some v -> D.sig x = some v) (hs : ∀ x v, C.sig x = some v -> w'.heap[x.block]? = w.heap[x.block]?) : Base D w' :=
 ⟨fun x v e => hle x v (b.1 x v e), fun x v o e1 e2 => (hs x v (b.1 x v e1)).trans (b.2 x v o e1 e2)⟩
structure WR (C : Cfg) (h : Heap) (w : World) : Prop where
 sig : ∀ x v, C.sig x = some v -> w.cell? x = some v
 blk : ∀ id blk, h.get id = some blk -> ∃ L, C.mu id = some L /\ BR C w L blk
 inj : ∀ id id' blk blk' L L', h.get id = some blk -> h.get id' = some blk' -> C.mu id = some L -> C.mu id' = some L' -> L.b = L'.b -> id = id'
 apart : ∀ id blk L x v, h.get id = some blk -> C.mu id = some L -> C.sig x = some v -> x.block ≠ L.b
 fresh : ∀ id L, C.mu id = some L -> id < h.next
 base : Base C w
theorem BR.lt {C : Cfg} {w : World} {L : Loc} {blk : Blk} (h : BR C w L blk) : L.b < w.heap.size := by
 have key : ∀ (o : Obj), w.heap[L.b]? = some o -> L.b < w.heap.size := fun o h => by
  rcases Nat.lt_or_ge L.b w.heap.size with h' | h'
  ·exact h'
  ·simp [Array.getElem?_eq_none h'] at h
 cases blk with
 | var cells => obtain ⟨c, h, _⟩ := h; exact h.lt
 | rw sz elems => obtain ⟨c, h, _⟩ := h; exact h.lt
 | mp entries => obtain ⟨es, clock, h, _⟩ := h; exact key _ h
 | loop => obtain ⟨l, h, _⟩ := h; exact key _ h
 | iter s pos => exact key (.stringIter ⟨⟨s⟩⟩ pos) h.1
theorem WR.live_lt {C : Cfg} {h : Heap} {w : World} (r : WR C h w) {b : Nat} (l : Live C h b) : b < w.heap.size := by
 obtain ⟨id, blk, L, h1, h2, rfl⟩ := l
 obtain ⟨L', h3, h4⟩ := r.blk id blk h1
 rw [h2] at h3
 cases h3
 exact h4.lt
theorem BR.same {C D : Cfg} {w w' : World} {L : Loc} {blk : Blk} (h : BR C w L blk) (hle : C.le D) (e : w'.heap[L.b]? = w.heap[L.b]?) : BR D w' L blk := by
 cases blk with
 | var cells => obtain ⟨c, h1, h2, h3, h4⟩ := h; exact ⟨c, h1.same e, h2, h3.mono hle, h4⟩
 | rw sz elems =>
  obtain ⟨c, h1, h2, h3, h4, h5⟩ := h
  refine ⟨c, h1.same e, h2, h3, h4, fun i x hx => ?_⟩
  obtain ⟨k1, k2, k3⟩ := h5 i x hx
  exact ⟨k1, k2, fun j y hy => let ⟨v, hv, hr⟩ := k3 j y hy; ⟨v, hv, hr.mono hle⟩⟩
 | mp entries =>
  obtain ⟨es, clock, h1, h2, h3⟩ := h
  refine ⟨es, clock, e.trans h1, h2, fun i k v hk => ?_⟩
  obtain ⟨x, hx, r1, r2⟩ := h3 i k v hk
  exact ⟨x, hx, r1.mono hle, r2.mono hle⟩
 | loop f e' ps assign body st pend =>
  obtain ⟨l, h1, h2, h3, h4, h5, h6, h7, h8, h9, h10, h11⟩ := h
  exact ⟨l, e.trans h1, h2, h3, h4, h5, h6, h7, h8, h9, h10, fun t => (h11 t).mono hle⟩
 | iter s pos => exact ⟨e.trans h.1, h.2⟩
inductive DfR (C : Cfg) : List (AV × List AV) -> List Deferred -> List Nat -> Prop
 | nil : DfR C [] [] []
 | mark {df : List (AV × List AV)} {ds : List Deferred} {ms : List Nat} (r : Nat) : DfR C df ds ms -> DfR C df ({ target := .collected r, args := #[] } :: ds) (r :: ms)
 | fn {df : List (AV × List AV)} {ds : List Deferred} {ms : List Nat} {g : FuncId} {first capt args : List AV} {vs ws : Array Value} : DfR C df ds ms -> VRs C (first ++ args) vs -> VRs C capt ws ->
   DfR C ((.func (.func g) first capt, args) :: df) ({ target := .fn (.func g) ws, args := vs } :: ds) ms
theorem DfR.mono {C D : Cfg} (hle : C.le D) {df : List (AV × List AV)} {ds : List Deferred} {ms : List Nat} (h : DfR C df ds ms) : DfR D df ds ms := by
 induction h with
 | nil => exact .nil
 | mark r _ ih => exact .mark r ih
 | fn _ h1 h2 ih => exact .fn ih (h1.mono hle) (h2.mono hle)
def UpR (C : Cfg) (kind : CallKind) (up : Option (AV × Bool)) (cs : List Frame) : Prop :=
 match up with
 | none => kind = .normal \/ (kind = .deferred /\ ∃ c rest, cs = c :: rest /\ c.mode = .returning)
 | some (v, r) => kind = .deferred /\ ∃ c rest u, cs = c :: rest /\ c.mode = .panicking [{ v := u, recovered := r, goexit := false }] /\ VR C v u
theorem UpR.mono {C D : Cfg} (hle : C.le D) {kind : CallKind} {up : Option (AV × Bool)} {cs : List Frame} (h : UpR C kind up cs) : UpR D kind up cs := by
 cases up with
 | none => exact h
 | some p => obtain ⟨h1, c, rest, u, h2, h3, h4⟩ := h; exact ⟨h1, c, rest, u, h2, h3, h4.mono hle⟩
def Own (lam : Nat -> Option Nat) (ms : List Nat) (b : Nat) : Prop := (∃ s, lam s = some b) \/ b ∈ ms
def BoxR (C : Cfg) (w : World) (lm : Mp (Nat × List AV)) (s b : Nat) : Prop :=
 ∃ g cells c, lm.get s = some (g, cells) /\ isCells w b c /\ VRs C cells c /\ ∀ x ∈ cells, x.one = true
structure St (C : Cfg) (lam : Nat -> Option Nat) (ms : List Nat) (F : Fr) (b : Frame) (a : Act) (w : World) (cs : List Frame) : Prop where
 wr : WR C F.hp w
 env : ∀ t, SR C lam F.lm (F.tmp t) (a.tmps.getD t undef)
 box : ∀ s β, lam s = some β -> BoxR C w F.lm s β
 inj : ∀ s s' β, lam s = some β -> lam s' = some β -> s = s'
 mark : ∀ r ∈ ms, w.heap[r]? = some (.deferred (some []))
 nodup : ms.Nodup
 live : ∀ β, Own lam ms β -> ¬ Live C F.hp β
 osig : ∀ β x v, Own lam ms β -> C.sig x = some v -> x.block ≠ β
 df : DfR C F.df a.defers ms
 up : UpR C b.kind F.up cs
 fn : b.fn = F.f
 rnd : b.roundOf.isSome = F.rnd
theorem St.own_lt {C : Cfg} {lam : Nat -> Option Nat} {ms : List Nat} {F : Fr} {b : Frame} {a : Act} {w : World} {cs : List Frame} (s : St C lam ms F b a w cs) {β : Nat} (h : Own lam ms β) : β < w.heap.size := by
 rcases h with ⟨t, ht⟩ | h
 ·obtain ⟨g, cells, c, _, h2, _⟩ := s.box t β ht
  exact h2.lt
 ·have := s.mark β h
  rcases Nat.lt_or_ge β w.heap.size with h' | h'
  ·exact h'
  ·simp [Array.getElem?_eq_none h'] at this
structure Ext (C : Cfg) (h : Heap) (O : Nat -> Prop) (w : World) (C' : Cfg) (h' : Heap) (O' : Nat -> Prop) (w' : World) : Prop where
 le : C.le C'
 os : w'.os = w.os
 tape : w'.tape = w.tape
 output : w'.output = w.output
 size : w.heap.size <= w'.heap.size
 same : ∀ β, β < w.heap.size -> ¬ Live C h β -> ¬ O β -> w'.heap[β]? = w.heap[β]?
 live : ∀ β, β < w.heap.size -> Live C' h' β -> Live C h β \/ O β
 own : ∀ β, β < w.heap.size -> O' β -> Live C h β \/ O β
 sig : ∀ x v, x.block < w.heap.size -> C'.sig x = some v -> C.sig x = some v \/ Live C h x.block \/ O x.block
 next : h.next <= h'.next
theorem Ext.refl (C : Cfg) (h : Heap) (O : Nat -> Prop) (w : World) : Ext C h O w C h O w :=
 ⟨.refl C, rfl, rfl, rfl, Nat.le_refl _, fun _ _ _ _ => rfl, fun _ _ l => .inl l, fun _ _ o => .inr o, fun _ _ _ s => .inl s, Nat.le_refl _⟩
theorem Ext.trans {C C' C'' : Cfg} {h h' h'' : Heap} {O O' O'' : Nat -> Prop} {w w' w'' : World} (e : Ext C h O w C' h' O' w') (f : Ext C' h' O' w' C'' h'' O'' w'') : Ext C h O w C'' h'' O'' w'' where
 le := e.le.trans f.le
 os := f.os.trans e.os
 tape := f.tape.trans e.tape
 output := f.output.trans e.output
 size := Nat.le_trans e.size f.size
 same β hb hl ho := by
  refine (f.same β (Nat.lt_of_lt_of_le hb e.size) (fun l => ?_) (fun o => ?_)).trans (e.same β hb hl ho)
  ·rcases e.live β hb l with h | h
   ·exact hl h
   ·exact ho h
  ·rcases e.own β hb o with h | h
   ·exact hl h
   ·exact ho h
 live β hb l := by
  rcases f.live β (Nat.lt_of_lt_of_le hb e.size) l with l | o
  ·exact e.live β hb l
  ·exact e.own β hb o
 own β hb o := by
  rcases f.own β (Nat.lt_of_lt_of_le hb e.size) o with l | o
  ·exact e.live β hb l
  ·exact e.own β hb o
 sig x v hb s := by
  rcases f.sig x v (Nat.lt_of_lt_of_le hb e.size) s with s | l | o
  ·exact e.sig x v hb s
  ·exact .inr (e.live _ hb l)
  ·exact .inr (e.own _ hb o)
 next := Nat.le_trans e.next f.next
theorem Ext.wide {C C' : Cfg} {h h' : Heap} {w w' : World} (e : Ext C h (fun _ => False) w C' h' (fun _ => False) w') (O : Nat -> Prop) : Ext C h O w C' h' O w' where
 le := e.le
 os := e.os
 tape := e.tape
 output := e.output
 size := e.size
 same β hb hl _ := e.same β hb hl id
 live β hb l := (e.live β hb l).imp id False.elim
 own _ _ o := .inr o
 sig x v hb s := by
  rcases e.sig x v hb s with s | l | o
  ·exact .inl s
  ·exact .inr (.inl l)
  ·exact o.elim
 next := e.next
theorem St.later {C C' : Cfg} {lam : Nat -> Option Nat} {ms : List Nat} {F : Fr} {b : Frame} {a : Act} {w w' : World} {cs : List Frame} {h' : Heap} (s : St C lam ms F b a w cs) (r : WR C' h' w')
  (e : Ext C F.hp (fun _ => False) w C' h' (fun _ => False) w') : St C' lam ms { F with hp := h' } b a w' cs where
 wr := r
 env t := (s.env t).mono e.le
 box t β ht := by
  obtain ⟨g, cells, c, h1, h2, h3, h4⟩ := s.box t β ht
  exact ⟨g, cells, c, h1, h2.same (e.same β h2.lt (s.live β (.inl ⟨t, ht⟩)) id), h3.mono e.le, h4⟩
 inj := s.inj
 mark m hm := (e.same m (s.own_lt (.inr hm)) (s.live m (.inr hm)) id).trans (s.mark m hm)
 nodup := s.nodup
 live β ho l := by
  rcases e.live β (s.own_lt ho) l with l | l
  ·exact s.live β ho l
  ·exact l
 osig β x v ho hs hx := by
  subst hx
  rcases e.sig x v (s.own_lt ho) hs with h | h | h
  ·exact s.osig _ x v ho h rfl
  ·exact s.live _ ho h
  ·exact h
 df := s.df.mono e.le
 up := s.up.mono e.le
 fn := s.fn
 rnd := s.rnd
theorem ofScalar_ok {C : Cfg} {v : Value} {a : AV} (h : ofScalar v = some a) : VR C a v /\ a.one = true := by
 cases v with
 | bool b => simp [ofScalar] at h; subst h; exact ⟨.bool _, rfl⟩
 | int k n => simp [ofScalar] at h; subst h; exact ⟨.int _ _, rfl⟩
 | string s => simp [ofScalar] at h; subst h; exact ⟨.str _, rfl⟩
 | pointer p => cases p <;> simp [ofScalar] at h; subst h; exact ⟨.nilptr, rfl⟩
 | slice p n c =>
  cases p with
  | some p => simp [ofScalar] at h
  | none =>
   simp [ofScalar] at h
   obtain ⟨⟨rfl, rfl⟩, rfl⟩ := h
   exact ⟨.nilslice, rfl⟩
 | map r => cases r <;> simp [ofScalar] at h; subst h; exact ⟨.nilmap, rfl⟩
 | nilFunc => simp [ofScalar] at h; subst h; exact ⟨.nilfunc, rfl⟩
 | nilIface => simp [ofScalar] at h; subst h; exact ⟨.niliface, rfl⟩
 | func fn x y =>
  simp only [ofScalar, scalarFn] at h
  cases fn with
  | func f =>
   simp only at h
   split at h
   ·rename_i hh
    cases h
    obtain ⟨hx, hy⟩ := hh
    have ex : x = #[] := Array.eq_empty_of_size_eq_zero hx
    have ey : y = #[] := Array.eq_empty_of_size_eq_zero hy
    subst ex; subst ey
    exact ⟨.func rfl (fun i hi => by simp at hi) rfl (fun i hi => by simp at hi), rfl⟩
   ·cases h
  | _ => simp at h
 | _ => simp [ofScalar] at h
theorem ofCells_ok {C : Cfg} : ∀ (l : List Value) (as : List AV), ofCells ofScalar l = some as -> VRs C as l.toArray /\ ∀ x ∈ as, x.one = true := by
 intro l
 induction l with
 | nil => intro as h; simp [ofCells] at h; subst h; exact ⟨VRs.nil C, by simp⟩
 | cons v l ih =>
  intro as h
  simp only [ofCells] at h
  cases h1 : ofScalar v with
  | none => simp [h1] at h
  | some a =>
   cases h2 : ofCells ofScalar l with
   | none => simp [h1, h2] at h
   | some r =>
    simp [h1, h2] at h
    subst h
    obtain ⟨k1, k2⟩ := ih r h2
    obtain ⟨j1, j2⟩ := ofScalar_ok (C := C) h1
    refine ⟨?_, by simpa [j2] using k2⟩
    have := VRs.cons j1 k1
    simpa using this
theorem ofValue_ok {C : Cfg} {v : Value} {a : AV} (h : ofValue v = some a) : VR C a v := by
 unfold ofValue at h
 split at h
 ·rename_i cs
  cases h1 : ofCells ofScalar cs.toList with
  | none => simp [h1] at h
  | some l =>
   simp [h1] at h
   subst h
   obtain ⟨k1, k2⟩ := ofCells_ok (C := C) _ _ h1
   exact .agg (by simpa using k1.1) (fun i hi => by simpa using k1.2 i hi) k2
 ·rename_i cs
  cases h1 : ofCells ofScalar cs.toList with
  | none => simp [h1] at h
  | some l =>
   simp [h1] at h
   subst h
   obtain ⟨k1, k2⟩ := ofCells_ok (C := C) _ _ h1
   exact .tuple (by simpa using k1.1) (fun i hi => by simpa using k1.2 i hi)
 ·exact (ofScalar_ok h).1
section
variable {C : Cfg} {lam : Nat -> Option Nat} {ms : List Nat} {F : Fr} {b : Frame} {a : Act} {w : World} {cs : List Frame}
theorem St.opd (s : St C lam ms F b a w cs) {x : Operand} {v : AV} (h : F.opd x = some v) : SR C lam F.lm v (a.eval x) := by
 cases x with
 | tmp t => simp [Fr.opd] at h; subst h; exact s.env t
 | const u => exact SR.of (ofValue_ok h)
 | global g => simp [Fr.opd] at h
 | func f => simp [Fr.opd] at h; subst h; exact SR.of (.func rfl (fun i hi => by simp at hi) rfl (fun i hi => by simp at hi))
theorem St.opv (s : St C lam ms F b a w cs) {x : Operand} {v : AV} (h : F.opv x = some v) : VR C v (a.eval x) := by
 unfold Fr.opv at h
 cases h1 : F.opd x with
 | none => simp [h1] at h
 | some u =>
  simp [h1] at h
  obtain ⟨h2, rfl⟩ := h
  exact (s.opd h1).out h2
theorem St.opvs (s : St C lam ms F b a w cs) : ∀ (l : List Operand) (vs : List AV), F.opvs l = some vs -> VRs C vs (l.toArray.map a.eval) := by
 intro l
 induction l with
 | nil => intro vs h; simp [Fr.opvs] at h; subst h; simpa using VRs.nil C
 | cons x l ih =>
  intro vs h
  simp only [Fr.opvs] at h
  cases h1 : F.opv x with
  | none => simp [h1] at h
  | some u =>
   cases h2 : F.opvs l with
   | none => simp [h1, h2] at h
   | some r =>
    simp [h1, h2] at h
    subst h
    have := VRs.cons (s.opv h1) (ih r h2)
    simpa using this
theorem St.mem (s : St C lam ms F b a w cs) {p : AV} {pv : Value} {cells : List AV} {off : Nat} (hp : SR C lam F.lm p pv) (h : F.mem p = some (cells, off)) :
  ∃ B O, pv = .pointer (some ⟨B, O, none⟩) /\ ∀ k x, cells[off + k]? = some x -> ∃ v, w.cell? ⟨B, O + k, none⟩ = some v /\ VR C x v /\ x.one = true := by
 cases p with
 | lptr t g o =>
  simp only [Fr.mem] at h
  cases h1 : F.lm.get t with
  | none => simp [h1] at h
  | some gc =>
   obtain ⟨g', cs'⟩ := gc
   simp [h1] at h
   obtain ⟨rfl, rfl, rfl⟩ := h
   obtain ⟨g2, cs2, β, e1, _, e4, e2⟩ := hp
   rw [h1] at e1
   cases e1
   have e3 := e2 rfl
   obtain ⟨g3, cells3, c, f1, f2, f3, f4⟩ := s.box t β e3
   rw [h1] at f1
   cases f1
   refine ⟨β, o, e4, fun k x hx => ?_⟩
   obtain ⟨v, hv, hr⟩ := f3.get hx
   exact ⟨v, (f2.cell _).trans hv, hr, f4 x (List.mem_of_getElem? hx)⟩
 | ptr id o =>
  simp only [Fr.mem] at h
  cases h1 : F.hp.get id with
  | none => simp [h1] at h
  | some blk =>
   cases blk with
   | var cs' =>
    simp [h1] at h
    obtain ⟨rfl, rfl⟩ := h
    obtain ⟨L, e1, c, f1, f2, f3, f4⟩ := s.wr.blk id _ h1
    cases hp with
    | ptr e2 =>
     rw [e1] at e2
     cases e2
     refine ⟨L.b, L.o + o, rfl, fun k x hx => ?_⟩
     obtain ⟨v, hv, hr⟩ := f3.get hx
     refine ⟨v, (f1.cell _).trans ?_, hr, f4 x (List.mem_of_getElem? hx)⟩
     rw [f2, Nat.zero_add]; exact hv
   | _ => simp [h1] at h
 | eptr id sz i j =>
  simp only [Fr.mem] at h
  cases h1 : F.hp.get id with
  | none => simp [h1] at h
  | some blk =>
   cases blk with
   | rw sz' el =>
    simp only [h1] at h
    by_cases hsz : sz = sz'
    ·simp only [hsz, if_true] at h
     cases h2 : el[i]? with
     | none => simp [h2] at h
     | some e =>
      simp [h2] at h
      obtain ⟨rfl, rfl⟩ := h
      obtain ⟨L, e1, c, f1, f2, f3, f4, f5⟩ := s.wr.blk id _ h1
      obtain ⟨g1, g2, g3⟩ := f5 i e h2
      cases hp with
      | eptr e2 =>
       rw [e1] at e2
       cases e2
       refine ⟨L.b, L.o + i * sz + j, rfl, fun k x hx => ?_⟩
       obtain ⟨v, hv, hr⟩ := g3 (j + k) x hx
       refine ⟨v, (f1.cell _).trans ?_, hr, g2 x (List.mem_of_getElem? hx)⟩
       subst hsz
       rw [Nat.add_assoc]; exact hv
    ·simp [hsz] at h
   | _ => simp [h1] at h
 | vptr cs' =>
  simp [Fr.mem] at h
  obtain ⟨rfl, rfl⟩ := h
  cases hp with
  | vptr vs k1 k2 k3 =>
   refine ⟨_, _, rfl, fun k x hx => ?_⟩
   rw [Nat.zero_add] at hx
   have hk : k < cs'.length := by
    rcases Nat.lt_or_ge k cs'.length with h' | h'
    ·exact h'
    ·simp [List.getElem?_eq_none h'] at hx
   have e : cs'.getD k .junk = x := by simp [List.getD, hx]
   exact ⟨vs k, s.wr.sig _ _ (k1 k hk), e ▸ k2 k hk, k3 x (List.mem_of_getElem? hx)⟩
 | _ => simp [Fr.mem] at h
end
end Go.AM
