/-
  A part of the proof: contracts of functions.
-/
import Derived.Test.YtkpbdjpekjdhcaaGreatDoorXBE
import Derived.Test.YtkpbdjpekjdhcaaGreatDoorXBI
import Derived.Test.YtkpbdjpekjdhcaaGreatDoorXBB
import Derived.Test.YtkpbdjpekjdhcaaGreatDoorXBJ
import Derived.Test.YtkpbdjpekjdhcaaGreatDoorXAY
import Derived.Test.YtkpbdjpekjdhcaaGreatDoorXBL
import Derived.Test.YtkpbdjpekjdhcaaGreatDoorXAV
import Derived.Test.YtkpbdjpekjdhcaaGreatDoorXAD
import Derived.Test.YtkpbdjpekjdhcaaGreatDoorXBK
set_option linter.unusedSectionVars false
set_option linter.unusedVariables false
set_option linter.unusedSimpArgs false
set_option maxRecDepth 100000
namespace Go.AM
open Go Go.Proofs
variable [Keep]
attribute [local irreducible] W WO WO1 WD WQ WT thenQ blockQ endR isRet retK Cl ClR
open Go.TX (Rm Fa Ha Hs)
structure HsD (h : Heap) (m : Hs) (ra fa oa ha : AV) : Prop where
 r : SeeV h rmC ra m.rooms
 f : SeeV h faC fa m.fans
 o : SeeV h intC oa m.op
 h : SeeV h haC ha m.hands
theorem HsD.fans {h : Heap} {m : Hs} {ra fa oa ha : AV} (hm : HsA m ra fa oa ha) {F : List Fa} {b : AV} (hb : SeeV h faC b F) : HsD h { m with fans := F } ra b oa ha := ⟨SeeV.of hm.r h, hb, SeeV.of hm.o h, SeeV.of hm.h h⟩
theorem HsD.hands {h : Heap} {m : Hs} {ra fa oa ha : AV} (hm : HsA m ra fa oa ha) {H : List Ha} {b : AV} (hb : SeeV h haC b H) : HsD h { m with hands := H } ra fa oa b := ⟨SeeV.of hm.r h, SeeV.of hm.f h, SeeV.of hm.o h, hb⟩
theorem SeeV.row {α : Type} {c : Cd α} {h : Heap} {id sz : Nat} {l : List α} (hg : h.get id = some (.rw sz (l.map c.enc))) (hn : l.length <= maxL) : SeeV h c (.row id 0 l.length) l := by
 refine ⟨.vslice (l.map c.enc), ?_, slV_mk (.inr rfl) hn⟩
 have hp : AV.purL (l.map c.enc) = true := by
  clear hg hn
  induction l with
  | nil => rfl
  | cons a l ih =>
   simp only [List.map_cons, AV.purL, Bool.and_eq_true]
   exact ⟨enc_pur c [a] _ (by simp), ih⟩
 have h1 : (l.map c.enc).take l.length = l.map c.enc := List.take_of_length_le (by simp)
 simp only [viewV, hg, List.length_map, Nat.zero_add, Nat.le_refl, if_true, List.drop_zero, h1, hp]
def IntsV (h : Heap) (a : AV) (l : List Int) : Prop := slV intC a = some l \/ (Blt h a 1 (intsE l) /\ l.length <= maxL)
theorem IntsV.out {h : Heap} {a : AV} {l : List Int} (v : IntsV h a l) : outV (some a) = some a := by
 rcases v with v | ⟨v, _⟩
 ·exact sl_out v
 ·exact v.out
theorem IntsV.len {h : Heap} {a : AV} {l : List Int} (v : IntsV h a l) : lenS a = some l.length := by
 rcases v with v | ⟨v, _⟩
 ·exact sl_len v
 ·have := v.len; rwa [intsE_len] at this
theorem IntsV.max {h : Heap} {a : AV} {l : List Int} (v : IntsV h a l) : l.length <= maxL := by
 rcases v with v | ⟨_, v⟩
 ·exact sl_max v
 ·exact v
theorem IntsV.parts {h : Heap} {a : AV} {l : List Int} (v : IntsV h a l) : a.cells = [a] /\ isTuple a = false := by
 rcases v with v | ⟨v, _⟩
 ·exact ⟨(slV_is v).1.cells, (slV_is v).1.tup⟩
 ·rcases v with ⟨rfl, _⟩ | ⟨id, rfl, _⟩ <;> exact ⟨rfl, rfl⟩
theorem IntsV.rd {h : Heap} {a : AV} {l : List Int} (v : IntsV h a l) {k : Nat} {x : Int} (hx : l[k]? = some x) : (∀ H, indexAddrV Tryz.prog H 24 a (.int .i64 (k : Int)) = some (.vptr [.int .i64 x])) \/ ∃ id el, h.get id = some (.rw 1 el) /\ el[k]? = some (.int .i64 x) /\ indexAddrV Tryz.prog h 24 a (.int .i64 (k : Int)) = some (.eptr id 1 k 0) := by
 rcases v with v | ⟨v, _⟩
 ·exact .inl fun H => ints_idx v hx H
 ·right
  rcases v with ⟨_, e⟩ | ⟨id, rfl, hg, _, _⟩
  ·have : l = [] := by
    cases l with
    | nil => rfl
    | cons b l => unfold intsE at e; simp at e
   rw [this] at hx; simp at hx
  ·have hk : k < (intsE l).length := by rw [intsE_len]; exact (List.getElem?_eq_some_iff.1 hx).1
   exact ⟨id, intsE l, hg, by unfold intsE; rw [List.getElem?_map, hx]; rfl, row_idx hg hk⟩
section
variable {c : Itr}
set_option maxHeartbeats 2000000 in
theorem C141r (h141 : c 141 = none) {h : Heap} {a : AV} {l : List Int} (v : IntsV h a l) (g : FuncId) (first capt : List AV) (pb : Int -> Bool)
  (hcall : ∀ p : Int, p ∈ l -> Cl (dX c) g ((first ++ [.int .i64 p]) ++ capt) h (.ret (.bool (pb p)) h none)) : Cl (dX c) 141 [a, .func (.func g) first capt] h (.ret (.int .i64 (idxOf pb l)) h none) := by
 refine ClR.cl ?_
 have hlen := v.len
 have hout := v.out
 have hmax := v.max
 have HV := J1 v
 have HCL := J1 hcall
 clear v hcall
 refine ClR.walk (c := _) h141 Tryz.func141 rfl (by kernel_rfl) rfl (fun e => by cases e) ?_
 try simp only [entryEnv, Nat.reduceAdd, List.nil_append, List.cons_append, emptyHp]
 repeat' (first | refine goS ?_ | (refine go2 ?_ ?_ <;> intro hh) | fail)
 refine W.loopH (l.length) [0, 1, 7] [] (fun k e lm => e.get 8 = some (.int .i64 ↑k) /\ (l.take k).all (fun x => !pb x) = true) ?_ ?_
 ·skip
  refine ⟨?_, ?_⟩
  all_goals first | exact Z2 | (simp [go_sem, *]; done) | skip
  all_goals rfl
 intro k e lm hk0 hce hcl hinv
 simp only [keepE, and_true] at hce
 obtain ⟨c0, c1, c7⟩ := hce
 simp only [go_sem, *, Nat.reduceBEq, Nat.reduceEqDiff, reduceIte] at c0 c1 c7
 clear hcl
 obtain ⟨h8, hall⟩ := hinv
 by_cases hlt : k < l.length
 ·have hd0 : decide ((k : Int) < ((l.length : Nat) : Int)) = true := by first | (simpa using hlt; done) | (simp only [decide_eq_true_eq]; omega)
  have hv_0 := wrap_succ hlt hmax
  obtain ⟨p, hpk⟩ := get_some hlt
  have hcl := HCL.out p (List.mem_of_getElem? hpk)
  have hnx : (l.take (k + 1)).all (fun x => !pb x) = !pb p := by rw [take_next hpk, List.all_append, hall]; simp
  have hat : pb p = true -> idxOf pb l = k := idxOf_at hall hpk
  have hrd := HV.out.rd hpk
  have HNX := J1 hnx
  have HAT := J1 hat
  have HLT0 := J1 hlt
  clear hnx hat hall hpk hlt
  rcases hrd with hix | ⟨id, el, hg, hek, hix⟩
  all_goals
   cases hb : pb p with
   | true =>
    rw [hb] at hcl
    have e := HAT.out hb
    rw [e]
    clear e
    repeat' (first | refine goS ?_ | (apply U6; exact Z1; exact Z1; (exact hcl); simp only [pM, pN, rR, rP]) | (refine go2 ?_ ?_ <;> intro hh) | fail)
    all_goals (simp only [resV_def (X := dX c) Tryz.func141, Tryz.results141]; first | exact J5 | refine J6 ?_)
    all_goals rfl
   | false =>
    rw [hb] at hcl
    repeat' (first | refine goS ?_ | (apply U6; exact Z1; exact Z1; (exact hcl); simp only [pM, pN, rR, rP]) | (refine go2 ?_ ?_ <;> intro hh) | fail)
    all_goals refine contH_mk J9 J7 J8 ?_
    all_goals refine ⟨?_, ?_⟩
    all_goals first | exact Z2 | skip
    all_goals (rw [HNX.out, hb]; rfl)
 ·have hd0 : decide ((k : Int) < ((l.length : Nat) : Int)) = false := by first | (simpa using hlt; done) | (simp only [decide_eq_false_iff_not]; omega)
  obtain rfl : k = l.length := by omega
  rw [List.take_length] at hall
  rw [idxOf_none hall]
  clear hall hlt
  repeat' (first | refine goS ?_ | (refine go2 ?_ ?_ <;> intro hh) | fail)
  all_goals (simp only [resV_def (X := dX c) Tryz.func141, Tryz.results141]; first | exact J5 | refine J6 ?_)
  all_goals rfl
theorem C92r (h92 : c 92 = none) (h141 : c 141 = none) {h : Heap} {a : AV} {l : List Int} (v : IntsV h a l) (g : FuncId) (first capt : List AV) (pb : Int -> Bool)
  (hcall : ∀ p : Int, p ∈ l -> Cl (dX c) g ((first ++ [.int .i64 p]) ++ capt) h (.ret (.bool (pb p)) h none)) : Cl (dX c) 92 [a, .func (.func g) first capt] h (.ret (.bool (l.any pb)) h none) := by
 refine ClR.cl ?_
 have k141 := C141r h141 v g first capt pb hcall
 have hout := v.out
 have hpos := idxOf_any pb l
 rw [<- hpos]
 clear v hcall hpos
 refine ClR.walk (c := _) h92 Tryz.func92 rfl (by kernel_rfl) rfl (fun e => by cases e) ?_
 try simp only [entryEnv, Nat.reduceAdd, List.nil_append, List.cons_append, emptyHp]
 repeat' (first | refine goS ?_ | (apply U6; exact Z1; exact Z1; (exact k141); simp only [pM, pN, rR, rP]) | (refine go2 ?_ ?_ <;> intro hh) | fail)
 all_goals (simp only [resV_def (X := dX c) Tryz.func92, Tryz.results92]; first | exact J5 | refine J6 ?_)
 all_goals rfl
end
end Go.AM
namespace Go.AM
open Go Go.Proofs
variable [Keep]
attribute [local irreducible] W WO WO1 WD WQ WT thenQ blockQ endR isRet retK Cl ClR
open Go.TX (Rm Fa Ha Hs)
section
variable {c : Itr}
theorem C94 (h94 : c 94 = none) (h143 : c 143 = some (pureFn sp143)) (x : Int) (h : Heap) : Cl (dX c) 94 [.int .u64 x] h (.ret (.int .i64 (ocF x)) h none) := by
 refine ClR.cl ?_
 have k143 : ∀ h, Cl (dX c) 143 [.int .u64 x] h (.ret (.int .i64 (ocF x)) h none) := fun h => Cl.intr h143 rfl
 generalize ocF x = z at *
 refine ClR.walk (c := _) h94 Tryz.func94 rfl (by kernel_rfl) rfl (fun e => by cases e) ?_
 try simp only [entryEnv, Nat.reduceAdd, List.nil_append, List.cons_append, emptyHp]
 repeat' (first | refine goS ?_ | (apply U6; exact Z1; exact Z1; (exact k143 _); simp only [pM, pN, rR, rP]) | (refine go2 ?_ ?_ <;> intro hh) | fail)
 all_goals (simp only [resV_def (X := dX c) Tryz.func94, Tryz.results94]; first | exact J5 | refine J6 ?_)
 all_goals rfl
theorem C95 (h95 : c 95 = none) (x : Int) (h : Heap) : Cl (dX c) 95 (([] ++ [.int .i64 x]) ++ []) h (.ret (.bool (x != 0)) h none) := by
 refine ClR.cl ?_
 generalize hb : (x != 0) = b
 refine ClR.walk (c := _) h95 Tryz.func95 rfl (by kernel_rfl) rfl (fun e => by cases e) ?_
 try simp only [entryEnv, Nat.reduceAdd, List.nil_append, List.cons_append, emptyHp]
 repeat' (first | refine goS ?_ | (refine go2 ?_ ?_ <;> intro hh) | fail)
 all_goals (simp only [resV_def (X := dX c) Tryz.func95, Tryz.results95]; first | exact J5 | refine J6 ?_)
 all_goals rfl
theorem C88 (h88 : c 88 = none) (h89 : c 89 = some (pureFn sp89)) {ra fa oa ha a : AV} {n : Int} {op p : List Int} {bm : Nat} {h : Heap} (g : h.get bm = some (.var [.int .i64 n, ra, fa, oa, ha])) (ho : slV intC oa = some op) (o1 : outV (some ra) = some ra) (o2 : outV (some fa) = some fa) (o4 : outV (some ha) = some ha) (v : IntsV h a p) (hp : p.length < op.length) (r : Int) (hr : -1 <= r) :
  Cl (dX c) 88 (([] ++ [a, .int .i64 r]) ++ [.ptr bm 0]) h (.ret (.bool (fitF (op.getD p.length 0) r)) h none) := by
 refine ClR.cl ?_
 have oa1 := v.out
 have la := v.len
 have o3 := sl_out ho
 obtain ⟨s, hs⟩ := get_some hp
 have hix := fun H => ints_idx ho hs H
 have hgd : op.getD p.length 0 = s := by simp [List.getD, hs]
 rw [hgd]
 unfold fitF
 clear v ho hs hgd
 by_cases e : r = -1
 ·subst e
  have e1 : ((-1 : Int) == -1) = true := rfl
  rw [e1, Bool.true_or]
  refine ClR.walk (c := _) h88 Tryz.func88 rfl (by kernel_rfl) rfl (fun e => by cases e) ?_
  try simp only [entryEnv, Nat.reduceAdd, List.nil_append, List.cons_append, emptyHp]
  repeat' (first | refine goS ?_ | (apply U6; exact Z1; exact Z1; (exact k89 _); simp only [pM, pN, rR, rP]) | (refine go2 ?_ ?_ <;> intro hh) | fail)
  all_goals (simp only [resV_def (X := dX c) Tryz.func88, Tryz.results88]; first | exact J5 | refine J6 ?_)
  all_goals rfl
 ·have e1 : (r == -1) = false := by simpa using e
  rw [e1, Bool.false_or]
  have k89 := fun h => K89 (X := dX c) h89 s r (by omega) h
  generalize hasB s r = b at *
  clear e hr hp
  refine ClR.walk (c := _) h88 Tryz.func88 rfl (by kernel_rfl) rfl (fun e => by cases e) ?_
  try simp only [entryEnv, Nat.reduceAdd, List.nil_append, List.cons_append, emptyHp]
  repeat' (first | refine goS ?_ | (apply U6; exact Z1; exact Z1; (exact k89 _); simp only [pM, pN, rR, rP]) | (refine go2 ?_ ?_ <;> intro hh) | fail)
  all_goals (simp only [resV_def (X := dX c) Tryz.func88, Tryz.results88]; first | exact J5 | refine J6 ?_)
  all_goals rfl
theorem C93 (h93 : c 93 = none) (h94 : c 94 = none) (h143 : c 143 = some (pureFn sp143)) {ra fa oa ha nv : AV} {n : Int} {bh b8 H L : Nat} {h : Heap} (g1 : h.get bh = some (.var [.int .i64 n, ra, fa, oa, ha])) (g2 : h.get b8 = some (.var [nv])) (lh : lenS ha = some H) (o4 : outV (some ha) = some ha) (ln : lenS nv = some L) (on : outV (some nv) = some nv) (hL : L <= H) (hH : H <= 100) (s : Int) (hs : 0 <= s /\ s < 8) :
  Cl (dX c) 93 (([] ++ [.int .i64 s]) ++ [.ptr bh 0, .ptr b8 0]) h (.ret (.bool (decide (ocF s > ((H - L : Nat) : Int)))) h none) := by
 refine ClR.cl ?_
 have k94 := fun h => C94 (c := c) h94 h143 s h
 have hw : IntKind.i64.wrap ((H : Int) - (L : Int)) = ((H - L : Nat) : Int) := by
  have := w64_small (n := (H : Int) - (L : Int)) (by omega) (by omega)
  unfold w64 at this
  rw [this]
  omega
 have hu : IntKind.u64.wrap s = s := by
  unfold IntKind.wrap
  have e : (2 : Int) ^ IntKind.u64.bits = 18446744073709551616 := rfl
  have e2 : IntKind.u64.signed = false := rfl
  simp only [e, e2]
  simp
  omega
 clear hs hL hH
 generalize ocF s = z at *
 refine ClR.walk (c := _) h93 Tryz.func93 rfl (by kernel_rfl) rfl (fun e => by cases e) ?_
 try simp only [entryEnv, Nat.reduceAdd, List.nil_append, List.cons_append, emptyHp]
 repeat' (first | (apply W.drawQ (id := 1) (l1 := [0, 1, 2, 3, 4, 5, 6, 7, 8, 9, 10]) (l2 := []); kernel_rfl; kernel_rfl; kernel_rfl; exact Z4) | refine go1 ?_ | (apply U6; exact Z1; exact Z1; (exact k94 _); simp only [pM, pN, rR, rP]) | (refine go2 ?_ ?_ <;> intro hh) | fail)
 all_goals (simp only [resV_def (X := dX c) Tryz.func93, Tryz.results93]; first | exact J5 | refine J6 ?_)
 all_goals rfl
end
end Go.AM
namespace Go.AM
open Go Go.Proofs
variable [Keep]
attribute [local irreducible] W WO WO1 WD WQ WT thenQ blockQ endR isRet retK Cl ClR
theorem eq36n : binV Tryz.prog .eql 36 true .nilslice .nilslice = some (.bool true) := by
 simp [binV, eqOp, eqV, isSliceT, whenB, Tryz.underlying36]
theorem eq36r (id n : Nat) : binV Tryz.prog .eql 36 true (.row id 0 n) .nilslice = some (.bool false) := by
 simp [binV, eqOp, eqV, isSliceT, whenB, Tryz.underlying36]
attribute [local irreducible] clR
theorem C98 (c : Itr) (hc : c 98 = none) (a : AV) (l : List AV) (h : Heap) (b : Blt h a 1 l) (hsz : ∀ v ∈ l, v.cells.length = 1) (hm : l.length <= 1000) : ClR (dX c) 98 [a] h (clR h l) := by
 have hlen : l.length <= most := by unfold most; omega
 have HSZ := J1 hsz
 clear hsz
 rcases b with ⟨rfl, hnil⟩ | ⟨id, rfl, hg, hid, hne⟩
 ·have HN := J1 hnil
  have hq := eq36n
  clear hlen hnil
  refine ClR.walk (c := _) hc Tryz.func98 rfl (by kernel_rfl) rfl clR_fail ?_
  try simp only [entryEnv, Nat.reduceAdd, List.nil_append, List.cons_append, emptyHp]
  repeat' (first | refine goS ?_ | (refine go2 ?_ ?_ <;> intro hh) | fail)
  all_goals (simp only [resV_def (X := dX c) Tryz.func98, Tryz.results98]; first | exact J5 | refine J6 ?_)
  rw [HN.out]
  exact clR_ret BltN.nil (HExt.refl h)
 ·have hel : h.elems (.row id 0 l.length) = some l := by simp [Heap.elems, hg]
  have hq := eq36r id l.length
  have HG := J1 hg
  have HI := J1 hid
  clear hg hid
  refine ClR.walk (c := _) hc Tryz.func98 rfl (by kernel_rfl) rfl clR_fail ?_
  try simp only [entryEnv, Nat.reduceAdd, List.nil_append, List.cons_append, emptyHp]
  repeat' (first | (apply WO1.append0 (t := 36) (u := 36) (e := 24) (e' := 24) (sz := 1) (tl := []) (new := l) (hx := .inl rfl); exact Z1; exact rfl; exact Z2; exact Z2; exact Z2; (focus (exact ty_row36)); (focus (first | exact Z2 | exact hel)); (focus (exact HSZ.out)); (focus (exact hlen)); (focus (exact hne)); simp only [pM, pN]) | refine go1 ?_ | (refine go2 ?_ ?_ <;> intro hh) | fail)
  all_goals (simp only [resV_def (X := dX c) Tryz.func98, Tryz.results98]; first | exact J5 | refine J6 ?_)
  refine clR_ret (.inr ⟨h.next, rfl, ?_, Nat.le_refl _, Nat.lt_succ_self _, hne⟩) (hext_new' _ _)
  rw [Heap.get_new, if_pos rfl]
end Go.AM
namespace Go.AM
open Go Go.Proofs
variable [Keep]
attribute [local irreducible] W WO WO1 WD WQ WT thenQ blockQ endR isRet retK Cl ClR
open Go.TX (Rm Fa Ha Hs)
theorem set_same {α : Type} {l : List α} {k : Nat} {x : α} (h : l[k]? = some x) : l.set k x = l := by
 obtain ⟨h1, rfl⟩ := List.getElem?_eq_some_iff.1 h
 exact List.set_getElem_self h1
def takB (p l : List Int) : Bool := fitsP l p && (l.all fun s => inB s 0 7) && (p.all fun r => inB r (-1) 2) && Nat.beq l.length p.length && !(Nat.beq p.length 0)
def sp147 : List AV -> Option AV
 | [pa, la] => match slV intC pa, slV intC la with
  | some p, some l => if takB p l = true then some (slN (intsE (takeP l p))) else none
  | _, _ => none
 | _ => none
end Go.AM
namespace Go.AM
open Go
def Code.blk (n : Nat) : Code -> Option Code
 | .block i b => bif Nat.beq i n then some b else Code.blk n b
 | .seq a b => match Code.blk n a with
  | some c => some c
  | none => Code.blk n b
 | .cond _ a b => match Code.blk n a with
  | some c => some c
  | none => Code.blk n b
 | .loop b => Code.blk n b
 | .scope b => Code.blk n b
 | .rangeFunc _ _ _ b => Code.blk n b
 | _ => none
def loopIn (fn : Func) (n : Nat) : Code := match fn.body with
 | some c => (match Code.blk n c with
  | some (.loop b) => b
  | _ => .skip)
 | none => .skip
def Code.from : Nat -> Code -> Code
 | 0, c => c
 | n + 1, .seq _ b => Code.from n b
 | _ + 1, _ => .skip
def blkFrom (fn : Func) (b n : Nat) : Code := match fn.body with
 | some c => (match Code.blk b c with
  | some d => Code.from n d
  | none => .skip)
 | none => .skip
end Go.AM
namespace Go.AM
open Go Go.Proofs
variable [Keep]
attribute [local irreducible] W WO WO1 WD WQ WT thenQ blockQ endR isRet retK Cl ClR
open Go.TX (Rm Fa Ha Hs)
theorem IntsV.same {h h' : Heap} {a : AV} {l : List Int} {tid : Nat} (v : IntsV h a l) (hn : h'.next = h.next) (hg : ∀ id, id ≠ tid -> h'.get id = h.get id) (ht : ∀ off n, a ≠ .row tid off n) : IntsV h' a l := by
 rcases v with v | ⟨v, m⟩
 ·exact .inl v
 ·refine .inr ⟨?_, m⟩
  rcases v with v | ⟨id, rfl, h1, h2, h3⟩
  ·exact .inl v
  ·exact .inr ⟨id, rfl, (hg id fun e => ht 0 _ (by rw [e])).trans h1, by rw [hn]; exact h2, h3⟩
theorem andN_op (a b : Int) : intOp .andNot .i64 a b = some (.int .i64 (andN a b)) := rfl
attribute [local irreducible] hasB takeP fitsP andN bitI tkF fitF
section
variable {c : Itr}
set_option maxHeartbeats 8000000 in
theorem L91_2 (h89 : c 89 = some (pureFn sp89)) (Q : Out -> Prop) (e : Mp AV) (lm : Mp (Nat × List AV)) (hp0 : Heap) (pa lv : AV) (p l : List Int) (tid : Nat) (vp : IntsV hp0 pa p) (vl : IntsV hp0 lv l) (hlen : l.length = p.length) (hpl : PLt 3 p) (hs : SetsOk l)
  (hgt : hp0.get tid = some (.rw 1 (intsE l))) (hti : tid < hp0.next) (hpt : ∀ off n, pa ≠ .row tid off n) (hlt' : ∀ off n, lv ≠ .row tid off n)
  (z2 z7 z8 z14 z40 z41 z42 : AV) (z8b : Option (Nat × List AV)) (d8 : lm.get 8 = z8b) (c1 : e.get 1 = some lv) (c2 : e.get 2 = some z2) (c7 : e.get 7 = some z7) (c8 : e.get 8 = some z8) (c12 : e.get 12 = some pa) (c13 : e.get 13 = some (.row tid 0 p.length)) (c14 : e.get 14 = some z14) (c40 : e.get 40 = some z40) (c41 : e.get 41 = some z41) (c42 : e.get 42 = some z42)
  (hno : fitsP l p = false -> ∀ e' lm' hp', keepE [1, 2, 7, 8, 40, 41, 42] e e' -> hp'.next = hp0.next -> (∀ id, id ≠ tid -> hp'.get id = hp0.get id) -> Q (.exit 1 (Fr.mk 91 false e' lm' hp' [] none)))
  (hyes : fitsP l p = true -> ∀ e' lm' hp', keepE [1, 2, 7, 8, 12, 13, 14, 40, 41, 42] e e' -> hp'.next = hp0.next -> (∀ id, id ≠ tid -> hp'.get id = hp0.get id) -> hp'.get tid = some (.rw 1 (intsE (takeP l p))) -> W (dX c) (blkFrom Tryz.f91 1 4) (Fr.mk 91 false e' lm' hp' [] none) Q) :
  W (dX c) (blkFrom Tryz.f91 1 3) (Fr.mk 91 false e lm hp0 [] none) Q := by
 have lp := vp.len
 have op := vp.out
 have ol := vl.out
 have mp := vp.max
 have HVP := J1 vp
 have HVL := J1 vl
 have HS := J1 hs
 have HPL := J1 hpl
 have HLEN := J1 hlen
 have HPT := J1 hpt
 have HLTT := J1 hlt'
 have HNO := J1 hno
 have HYES := J1 hyes
 have HGT := J1 hgt
 have HTI := J1 hti
 clear vp vl hs hpl hlen hpt hlt' hno hyes hgt hti
 repeat' (first | refine goS ?_ | (refine go2 ?_ ?_ <;> intro hh) | fail)
 refine W.loopV (p.length) [1, 2, 7, 8, 12, 13, 14, 40, 41, 42, 54, 55] [8] (fun k e lm hp => e.get 56 = some (.int .i64 ↑k) /\ fitsP l p = fitsP (l.drop k) (p.drop k) /\ hp.next = hp0.next /\ (∀ id, id ≠ tid -> hp.get id = hp0.get id) /\ hp.get tid = some (.rw 1 (intsE (takeP l (p.take k))))) ?_ ?_
 ·skip
  refine ⟨?_, ?_, rfl, fun _ _ => rfl, ?_⟩
  all_goals first | exact Z2 | (simp [go_sem, *]; done) | skip
  ·have e : takeP l (p.take 0) = l := by rw [List.take_zero]; unfold takeP; cases l <;> rfl
   rw [e]
   exact HGT.out
 intro k e lm hp hk0 hce hcl hinv
 simp only [keepE, and_true] at hce
 obtain ⟨c1, c2, c7, c8, c12, c13, c14, c40, c41, c42, c54, c55⟩ := hce
 simp only [go_sem, *, Nat.reduceBEq, Nat.reduceEqDiff, reduceIte] at c1 c2 c7 c8 c12 c13 c14 c40 c41 c42 c54 c55
 simp only [keepL, and_true] at hcl
 have d8 := hcl
 clear hcl
 simp only [go_sem, *, Nat.reduceBEq, Nat.reduceEqDiff, reduceIte] at d8
 obtain ⟨h56, hq, hn, hg, ht⟩ := hinv
 by_cases hlt : k < p.length
 ·have hd0 : decide ((k : Int) < ((p.length : Nat) : Int)) = true := by first | (simpa using hlt; done) | (simp only [decide_eq_true_eq]; omega)
  have hv_0 := wrap_succ hlt mp
  obtain ⟨r, hr⟩ := get_some hlt
  obtain ⟨s, hs⟩ := get_some (l := l) (k := k) (by have := HLEN.out; omega)
  have hrr := HPL.out r (List.mem_of_getElem? hr)
  have hss := HS.out s (List.mem_of_getElem? hs)
  have vp := HVP.out.same hn hg HPT.out
  have vl := HVL.out.same hn hg HLTT.out
  have rdp := vp.rd hr
  have rdl := vl.rd hs
  obtain ⟨hnx, hgk⟩ := take_step hr hs
  rw [fits_drop hr hs] at hq
  have hix := row_idx (n := p.length) ht hlt
  have hgo : (intsE (takeP l (p.take k)))[k]? = some (.int .i64 s) := by unfold intsE; rw [List.getElem?_map, hgk]; rfl
  have hset := ints_set (takeP l (p.take k)) k
  have HNX := J1 hnx
  have HSET := J1 hset
  have HLT0 := J1 hlt
  have HQ := J1 hq
  have HN := J1 hn
  have HG := J1 hg
  have HGO := J1 hgo
  have HT := J1 ht
  clear hr hs hnx hgk hset hlt hq hn hg vp vl
  by_cases hneg : r = -1
  ·subst hneg
   have e1 : ((-1 : Int) == -1) = true := rfl
   have hf : fitF s (-1) = true := by unfold fitF; rfl
   have htk : tkF s (-1) = s := by unfold tkF; rfl
   have HF := J1 hf
   have HTK := J1 htk
   clear hf htk hrr hss rdl hix hgo ht
   rcases rdp with hip | ⟨id, el, hgp, hek, hip⟩
   all_goals
    repeat' (first | (apply W.drawQ (id := 16) (l1 := [0, 1, 2, 3, 4, 5, 6, 7]) (l2 := [8]); kernel_rfl; kernel_rfl; kernel_rfl; exact Z4) | refine go1 ?_ | (refine go2 ?_ ?_ <;> intro hh) | fail)
    all_goals refine contV_mk J9 J7 J8 ?_
    all_goals refine ⟨?_, ?_, HN.out, HG.out, ?_⟩
    all_goals first | exact Z2 | skip
    ·rw [HQ.out, HF.out, Bool.true_and]
    ·rw [HNX.out, HTK.out, <- HSET.out, set_same HGO.out]
     exact HT.out
  ·have e1 : (r == -1) = false := by simpa using hneg
   have hf : fitF s r = hasB s r := by unfold fitF; rw [e1, Bool.false_or]
   have htk : tkF s r = andN s (bitI r) := by unfold tkF; rw [e1, if_neg (by simp)]
   have k89 := fun h => K89 (X := dX c) h89 s r (by omega) h
   have hsh := intOp_shlI (r := r) (by omega)
   have han := andN_op s (bitI r)
   have HF := J1 hf
   have HTK := J1 htk
   clear hf htk hrr hss hneg
   cases hb : hasB s r with
   | false =>
    rw [hb] at k89
    have hno := HNO.out (by rw [HQ.out, HF.out, hb, Bool.false_and])
    have HNO2 := J1 hno
    clear hno
    rcases rdp with hip | ⟨id, el, hgp, hek, hip⟩
    all_goals
     rcases rdl with hil | ⟨id2, el2, hgl, hel, hil⟩
     all_goals
      repeat' (first | (apply W.drawQ (id := 16) (l1 := [0, 1, 2, 3, 4, 5, 6, 7]) (l2 := [8]); kernel_rfl; kernel_rfl; kernel_rfl; exact Z4) | refine go1 ?_ | (apply U6; exact Z1; exact Z1; (exact k89 _); simp only [pM, pN, rR, rP]) | (refine go2 ?_ ?_ <;> intro hh) | fail)
      all_goals refine HNO2.out _ _ _ ?_ HN.out HG.out
      all_goals exact J7
   | true =>
    rw [hb] at k89
    rcases rdp with hip | ⟨id, el, hgp, hek, hip⟩
    all_goals
     rcases rdl with hil | ⟨id2, el2, hgl, hel, hil⟩
     all_goals
      obtain ⟨hn1, hm1⟩ := hp
      simp only [hp_get] at ht
      try simp only [hp_get] at hgp
      try simp only [hp_get] at hgl
      generalize andN s (bitI r) = av at *
      generalize bitI r = bv at *
      repeat' (first | (apply W.drawQ (id := 16) (l1 := [0, 1, 2, 3, 4, 5, 6, 7]) (l2 := [8]); kernel_rfl; kernel_rfl; kernel_rfl; exact Z4) | (apply U5; exact rfl; (focus (intro cl rd; simp only [go_sem, *, Nat.reduceLT, Int.reduceEq, Int.reduceBEq, Int.reduceLE, Int.reduceLT, Nat.reduceAdd, Nat.reduceBEq, Nat.reduceEqDiff, reduceIte, Nat.reduceLeDiff, Nat.reduceMul, Nat.reduceSub, reduceCtorEq, efV, Fr.storeE, AV.cells, isTuple, write_eptr, splice, asElem, isAggV]; with_reducible rfl)); simp only [pM, pN]) | refine go1 ?_ | (apply U6; exact Z1; exact Z1; (exact k89 _); simp only [pM, pN, rR, rP]) | (refine go2 ?_ ?_ <;> intro hh) | fail)
      all_goals refine contV_mk J9 J7 J8 ?_
      all_goals refine ⟨?_, ?_, ?_, ?_, ?_⟩
      all_goals first | exact Z2 | skip
      ·rw [HQ.out, HF.out, hb, Bool.true_and]
      ·exact HN.out
      ·intro id0 hid0
       have := HG.out id0 hid0
       simp only [hp_get] at this ⊢
       rw [Mp.get_set, if_neg (fun e => hid0 e.symm)]
       exact this
      ·rw [HNX.out, HTK.out, <- HSET.out]
       simp only [hp_get, get_set_same]
 ·have hd0 : decide ((k : Int) < ((p.length : Nat) : Int)) = false := by first | (simpa using hlt; done) | (simp only [decide_eq_false_iff_not]; omega)
  obtain rfl : k = p.length := by omega
  have hf : fitsP l p = true := by
   rw [hq, List.drop_eq_nil_of_le (Nat.le_refl _)]
   unfold fitsP
   cases l.drop p.length <;> rfl
  rw [List.take_length] at ht
  have hyes := HYES.out hf
  have HN := J1 hn
  have HG := J1 hg
  have HT := J1 ht
  clear hq hn hg ht hf hlt
  repeat' (first | (refine hyes _ _ _ ?_ ?_ ?_ ?_) | refine go1 ?_ | (refine go2 ?_ ?_ <;> intro hh) | fail)
  ·exact J7
  ·exact HN.out
  ·exact HG.out
  ·exact HT.out
end
end Go.AM
namespace Go.AM
open Go Go.Proofs
variable [Keep]
attribute [local irreducible] W WO WO1 WD WQ WT thenQ blockQ endR isRet retK Cl ClR
open Go.TX (Rm Fa Ha Hs)
def RowsV (h : Heap) (v : AV) (g : List (List Int)) : Prop := ∃ els : List AV, Blt h v 1 els /\ els.length = g.length /\ ∀ (k : Nat) (p : List Int), g[k]? = some p -> ∃ b, els[k]? = some b /\ Blt h b 1 (intsE p)
structure RelS (bf bo : Nat) (h h' : Heap) : Prop where
 next : h.next <= h'.next
 same : ∀ id, id < h.next -> id ≠ bf -> id ≠ bo -> h'.get id = h.get id
theorem RelS.refl (bf bo : Nat) (h : Heap) : RelS bf bo h h := ⟨Nat.le_refl _, fun _ _ _ _ => rfl⟩
theorem RelS.trans {bf bo : Nat} {a b d : Heap} (x : RelS bf bo a b) (y : RelS bf bo b d) : RelS bf bo a d := ⟨Nat.le_trans x.next y.next, fun id h1 h2 h3 => (y.same id (Nat.lt_of_lt_of_le h1 x.next) h2 h3).trans (x.same id h1 h2 h3)⟩
theorem RelS.ext {bf bo : Nat} {h h' : Heap} (x : HExt h h') : RelS bf bo h h' := ⟨x.1, fun id hid _ _ => x.2 id hid⟩
def CellS (bf bo : Nat) (h : Heap) : Prop := (∀ z r, h.get bf ≠ some (.rw z r)) /\ ∀ z r, h.get bo ≠ some (.rw z r)
theorem Blt.relS {bf bo : Nat} {h h' : Heap} {v : AV} {sz : Nat} {l : List AV} (b : Blt h v sz l) (c : CellS bf bo h) (x : RelS bf bo h h') : Blt h' v sz l := by
 rcases b with q | ⟨id, rfl, h1, h2, h3⟩
 ·exact .inl q
 ·exact .inr ⟨id, rfl, (x.same id h2 (fun e => c.1 _ _ (e ▸ h1)) (fun e => c.2 _ _ (e ▸ h1))).trans h1, Nat.lt_of_lt_of_le h2 x.next, h3⟩
theorem RowsV.relS {bf bo : Nat} {h h' : Heap} {v : AV} {g : List (List Int)} (r : RowsV h v g) (c : CellS bf bo h) (x : RelS bf bo h h') : RowsV h' v g := by
 obtain ⟨els, h1, h2, h3⟩ := r
 refine ⟨els, h1.relS c x, h2, fun k p hk => ?_⟩
 obtain ⟨b, b1, b2⟩ := h3 k p hk
 exact ⟨b, b1, b2.relS c x⟩
theorem IntsV.relS {bf bo : Nat} {h h' : Heap} {a : AV} {l : List Int} (v : IntsV h a l) (c : CellS bf bo h) (x : RelS bf bo h h') : IntsV h' a l := by
 rcases v with v | ⟨v, m⟩
 ·exact .inl v
 ·exact .inr ⟨v.relS c x, m⟩
def OwnV (h : Heap) (v : AV) (n : Nat) (O : Nat -> List (List Int)) : Prop := ∃ els : List AV, Blt h v 1 els /\ els.length = n /\ ∀ i, i < n -> ∃ b, els[i]? = some b /\ RowsV h b (O i)
theorem OwnV.relS {bf bo : Nat} {h h' : Heap} {v : AV} {n : Nat} {O : Nat -> List (List Int)} (r : OwnV h v n O) (c : CellS bf bo h) (x : RelS bf bo h h') : OwnV h' v n O := by
 obtain ⟨els, h1, h2, h3⟩ := r
 refine ⟨els, h1.relS c x, h2, fun i hi => ?_⟩
 obtain ⟨b, b1, b2⟩ := h3 i hi
 exact ⟨b, b1, b2.relS c x⟩
theorem RowsV.parts {h : Heap} {v : AV} {g : List (List Int)} (r : RowsV h v g) : outV (some v) = some v /\ lenS v = some g.length /\ v.cells = [v] /\ isTuple v = false := by
 obtain ⟨els, h1, h2, _⟩ := r
 refine ⟨h1.out, by rw [h1.len, h2], ?_⟩
 rcases h1 with ⟨rfl, _⟩ | ⟨id, rfl, _⟩ <;> exact ⟨rfl, rfl⟩
theorem RowsV.rd {h : Heap} {v : AV} {g : List (List Int)} (r : RowsV h v g) {k : Nat} {p : List Int} (hk : g[k]? = some p) : ∃ id el b, h.get id = some (.rw 1 el) /\ el[k]? = some b /\ indexAddrV Tryz.prog h 36 v (.int .i64 (k : Int)) = some (.eptr id 1 k 0) /\ Blt h b 1 (intsE p) /\ id < h.next := by
 obtain ⟨els, h1, h2, h3⟩ := r
 obtain ⟨b, b1, b2⟩ := h3 k p hk
 have hkl : k < els.length := (List.getElem?_eq_some_iff.1 b1).1
 rcases h1 with ⟨_, e⟩ | ⟨id, rfl, hg, hlt, _⟩
 ·rw [e] at hkl; simp at hkl
 ·refine ⟨id, els, b, hg, b1, ?_, b2, hlt⟩
  have hix : idxV (.int .i64 (k : Int)) els.length = some k := by
   simp only [idxV]
   rw [if_pos (by constructor <;> omega)]
   simp
  simp only [indexAddrV, Tryz.underlying36, ty_lay24, hix, hg, if_true, Nat.zero_add]
theorem OwnV.rd {h : Heap} {v : AV} {n : Nat} {O : Nat -> List (List Int)} (r : OwnV h v n O) {i : Nat} (hi : i < n) : ∃ id el b, h.get id = some (.rw 1 el) /\ el[i]? = some b /\ indexAddrV Tryz.prog h 89 v (.int .i64 (i : Int)) = some (.eptr id 1 i 0) /\ RowsV h b (O i) /\ id < h.next := by
 obtain ⟨els, h1, h2, h3⟩ := r
 obtain ⟨b, b1, b2⟩ := h3 i hi
 have hkl : i < els.length := by omega
 rcases h1 with ⟨_, e⟩ | ⟨id, rfl, hg, hlt, _⟩
 ·rw [e] at hkl; simp at hkl
 ·refine ⟨id, els, b, hg, b1, ?_, b2, hlt⟩
  have hix : idxV (.int .i64 (i : Int)) els.length = some i := by
   simp only [idxV]
   rw [if_pos (by constructor <;> omega)]
   simp
  simp only [indexAddrV, Tryz.underlying89, ty_lay36, hix, hg, if_true, Nat.zero_add]
structure StS (bf bo : Nat) (h : Heap) (st : Option (List (List Int)) × Nat) : Prop where
 few : h.get bf = some (.var [.int .i64 (st.2 : Int)])
 out : ∃ v, h.get bo = some (.var [v]) /\ ((st.1 = none /\ v = .nilslice) \/ ∃ g, st.1 = some g /\ RowsV h v g)
theorem StS.cell {bf bo : Nat} {h : Heap} {st : Option (List (List Int)) × Nat} (s : StS bf bo h st) : CellS bf bo h := by
 obtain ⟨v, h1, _⟩ := s.out
 refine ⟨fun z r e => ?_, fun z r e => ?_⟩
 ·rw [s.few] at e; cases e
 ·rw [h1] at e; cases e
theorem StS.ext {bf bo : Nat} {h h' : Heap} {st : Option (List (List Int)) × Nat} (s : StS bf bo h st) (l1 : bf < h.next) (l2 : bo < h.next) (x : HExt h h') : StS bf bo h' st := by
 obtain ⟨v, h1, h2⟩ := s.out
 refine ⟨(x.2 _ l1).trans s.few, v, (x.2 _ l2).trans h1, ?_⟩
 rcases h2 with q | ⟨g, q1, q2⟩
 ·exact .inl q
 ·exact .inr ⟨g, q1, q2.relS s.cell (.ext x)⟩
structure EnvS (bf bh bo bw bs H : Nat) (n : Int) (ra fa oa ha wv : AV) (O : Nat -> List (List Int)) (h : Heap) : Prop where
 house : h.get bh = some (.var [.int .i64 n, ra, fa, oa, ha])
 own : h.get bw = some (.var [wv])
 self : h.get bs = some (.var [.func (.func 91) [] [.ptr bf 0, .ptr bh 0, .ptr bo 0, .ptr bw 0, .ptr bs 0]])
 rows : OwnV h wv H O
 lt : bf < h.next /\ bh < h.next /\ bo < h.next /\ bw < h.next /\ bs < h.next
 ne : bh ≠ bf /\ bh ≠ bo /\ bw ≠ bf /\ bw ≠ bo /\ bs ≠ bf /\ bs ≠ bo /\ bf ≠ bo
theorem EnvS.relS {bf bh bo bw bs H : Nat} {n : Int} {ra fa oa ha wv : AV} {O : Nat -> List (List Int)} {h h' : Heap} (e : EnvS bf bh bo bw bs H n ra fa oa ha wv O h) (c : CellS bf bo h) (x : RelS bf bo h h') : EnvS bf bh bo bw bs H n ra fa oa ha wv O h' := by
 obtain ⟨l1, l2, l3, l4, l5⟩ := e.lt
 obtain ⟨n1, n2, n3, n4, n5, n6, n7⟩ := e.ne
 have k := x.next
 exact ⟨(x.same _ l2 n1 n2).trans e.house, (x.same _ l4 n3 n4).trans e.own, (x.same _ l5 n5 n6).trans e.self, e.rows.relS c x, ⟨by omega, by omega, by omega, by omega, by omega⟩, e.ne⟩
def seR (bf bo : Nat) (h : Heap) (st : Option (List (List Int)) × Nat) (r : COut) : Prop := ∃ h', r = .ret (.tuple []) h' none /\ StS bf bo h' st /\ RelS bf bo h h'
theorem seR_fail {bf bo : Nat} {h : Heap} {st : Option (List (List Int)) × Nat} : ¬ seR bf bo h st .fail := by rintro ⟨_, e, _⟩; cases e
end Go.AM
namespace Go.AM
open Go Go.Proofs
variable [Keep]
attribute [local irreducible] W WO WO1 WD WQ WT thenQ blockQ endR isRet retK Cl ClR
attribute [local irreducible] clR
theorem C96i (c : Itr) (hc : c 96 = none) (a : AV) (p : List Int) (h : Heap) (v : IntsV h a p) (hn : p ≠ []) (hm : p.length <= 1000) : ClR (dX c) 96 [a] h (clR h (intsE p)) := by
 rcases v with v | ⟨v, _⟩
 ·have hsz : ∀ v ∈ intsE p, v.cells.length = 1 := fun v hv => by
   obtain ⟨k, _, rfl⟩ := List.mem_map.1 hv
   rfl
  have hlen : (intsE p).length <= most := by rw [intsE_len]; unfold most; omega
  have hne : intsE p ≠ [] := fun e => hn (by cases p with | nil => rfl | cons x l => unfold intsE at e; simp at e)
  have hlv : a = .vslice (intsE p) := by
   rcases (slV_is v).1 with ⟨_, e⟩ | e
   ·exact absurd e hne
   ·exact e
  subst hlv
  have hel : h.elems (.vslice (intsE p)) = some (intsE p) := rfl
  have hq := eq24v (l := intsE p)
  clear v hn
  refine ClR.walk (c := _) hc Tryz.func96 rfl (by kernel_rfl) rfl clR_fail ?_
  try simp only [entryEnv, Nat.reduceAdd, List.nil_append, List.cons_append, emptyHp]
  repeat' (first | (apply WO1.append0 (t := 24) (u := 24) (e := 3) (e' := 3) (sz := 1) (tl := []) (new := intsE p) (hx := .inl rfl); exact Z1; exact rfl; exact Z2; exact Z2; exact Z2; (focus (exact ty_row24)); (focus (first | exact Z2 | exact hel)); (focus (exact hsz)); (focus (exact hlen)); (focus (exact hne)); simp only [pM, pN]) | refine go1 ?_ | (refine go2 ?_ ?_ <;> intro hh) | fail)
  all_goals (simp only [resV_def (X := dX c) Tryz.func96, Tryz.results96]; first | exact J5 | refine J6 ?_)
  refine clR_ret (.inr ⟨h.next, rfl, ?_, Nat.le_refl _, Nat.lt_succ_self _, hne⟩) (hext_new' _ _)
  rw [Heap.get_new, if_pos rfl]
 ·exact C96 c hc a p h v hm
end Go.AM
namespace Go.AM
open Go Go.Proofs
variable [Keep]
attribute [local irreducible] W WO WO1 WD WQ WT thenQ blockQ endR isRet retK Cl ClR
open Go.TX (Rm Fa Ha Hs)
def kpB (m : Hs) (i : Nat) (p : List Int) : Bool := !decide (((busyL p : Nat) : Int) > mostAt m i) && !decide ((airS m p).2 > limAt m i)
def bzC (p : List Int) : Nat := if 0 < busyL p then 1 else 0
def lsE (g : List (List Int)) : List AV := g.map fun p => slN (intsE p)
def srF (L : List (List Int)) (K : Nat -> List Int -> Bool) (C : List Int -> Nat) (d i : Nat) (taken : List (List Int)) (left : List Int) (h : Nat) (p : List Int) : Option (List (List Int)) := if ((decide (0 < C p) && Nat.beq h 0) || !K i p || !fitsP left p) = true then none else srR L K C d (i + 1) (taken ++ [p]) (takeP left p) (h - C p)
attribute [local irreducible] houseB pathB airS failsH hasB allP mny takeP fitsP srR srF busyL
section
variable {c : Itr}
end
end Go.AM
namespace Go.AM
open Go Go.Proofs
variable [Keep]
attribute [local irreducible] W WO WO1 WD WQ WT thenQ blockQ endR isRet retK Cl ClR
open Go.TX (Rm Fa Ha Hs)
attribute [local irreducible] hasB takeP fitsP andN bitI tkF fitF ocF mny bzC
section
variable {c : Itr}
theorem goP_cut {C : List Int -> Nat} {O : Nat -> List (List Int)} {d i : Nat} {now : List (List Int)} {left : List Int} {hands : Nat} {st : Option (List (List Int)) × Nat} (h : (decide (hands >= st.2) || left.any fun s => decide (ocF s > ((d : Nat) : Int))) = true) : goP (C := C) (O := O) d i now left hands st = st := by
 cases d with
 | zero => rw [goP, if_pos h]
 | succ d => rw [goP, if_pos h]
set_option maxHeartbeats 16000000 in
theorem G91z (h91 : c 91 = none) (h92 : c 92 = none) (h141 : c 141 = none) (h93 : c 93 = none) (h95 : c 95 = none) (h94 : c 94 = none) (h143 : c 143 = some (pureFn sp143)) (h89 : c 89 = some (pureFn sp89)) (H nn : Nat) (hH : H <= 4) (n : Int) (ra fa oa ha wv : AV) (O : Nat -> List (List Int)) (bf bh bo bw bs : Nat) (lh : lenS ha = some H) (o1 : outV (some ra) = some ra) (o2 : outV (some fa) = some fa) (o3 : outV (some oa) = some oa) (o4 : outV (some ha) = some ha) (hO : ∀ i p, p ∈ O i -> p.length = nn /\ PLt 3 p) :
  ∀ now nv lv left (hands : Nat) st h, now.length + 0 = H -> RowsV h nv now -> IntsV h lv left -> left.length = nn -> SetsOk left -> hands <= 10 -> StS bf bo h st -> EnvS bf bh bo bw bs H n ra fa oa ha wv O h ->
  ClR (dX c) 91 [nv, lv, .int .i64 (hands : Int), .ptr bf 0, .ptr bh 0, .ptr bo 0, .ptr bw 0, .ptr bs 0] h (seR bf bo h (goP (C := bzC) (O := O) 0 now.length now left hands st)) := by
 all_goals
  intro now nv lv left hands st h hid hnow hlv hll hso hhl hst hen
  obtain ⟨hn, hm⟩ := h
  obtain ⟨e1, e2, e3, e4, e5, e6⟩ := hen
  obtain ⟨l1, l2, l3, l4, l5⟩ := e5
  obtain ⟨on, ln, cn, tn⟩ := hnow.parts
  have ol := hlv.out
  obtain ⟨ov, q1, q2⟩ := hst.out
  have few := hst.few
  have b1 : (hn == bf) = false := by simp only [beq_eq_false_iff_ne, ne_eq]; simp only at l1; omega
  have b2 : (hn == bh) = false := by simp only [beq_eq_false_iff_ne, ne_eq]; simp only at l2; omega
  have b3 : (hn == bo) = false := by simp only [beq_eq_false_iff_ne, ne_eq]; simp only at l3; omega
  have hx : HExt ⟨hn, hm⟩ ⟨hn + 1, hm.set hn (.var [nv])⟩ := ⟨Nat.le_succ _, fun id hi => by
   simp only at hi
   rw [hget_set, if_neg (by omega)]
   rfl⟩
  have hl2 : IntsV ⟨hn + 1, hm.set hn (.var [nv])⟩ lv left := hlv.relS hst.cell (.ext hx)
  have k92a := C92r h92 h141 hl2 93 [] [.ptr bh 0, .ptr hn 0] (fun s => decide (ocF s > ((H - now.length : Nat) : Int))) (fun s hs => C93 (c := c) h93 h94 h143 ((hx.2 bh l2).trans e1) (by rw [hget_set, if_pos rfl]) lh o4 ln on (by omega) (by omega) s (hso s hs))
  have k92b := C92r h92 h141 hl2 95 [] [] (fun s => s != 0) (fun s hs => C95 (c := c) h95 s _)
  have hHn : H - now.length = 0 := by omega
  rw [hHn] at k92a
  have hee : ((now.length : Int) == (H : Int)) = true := by simp only [beq_iff_eq]; omega
  have HST := J1 hst
  have HNOW := J1 hnow
  have HX := J1 hx
  have HNE := J1 e6
  simp only [hp_get] at e1 q1 few
  simp only [AV.cells] at cn
  simp only [isTuple] at tn
  have HL := J1 (And.intro l1 (And.intro l2 l3))
  clear hlv hl2 hso hst hnow hx e2 e3 e4 l1 l2 l3 l4 l5 q2 e6 hHn hid hO
  cases g1 : decide ((hands : Int) >= (st.2 : Int)) with
  | true =>
   have hcut : (decide (hands >= st.2) || left.any fun s => decide (ocF s > ((0 : Nat) : Int))) = true := by
    have : hands >= st.2 := by simp only [decide_eq_true_eq] at g1; omega
    simp [this]
   rw [goP_cut hcut]
   clear hcut
   refine ClR.walk (c := _) h91 Tryz.func91 rfl (by kernel_rfl) rfl seR_fail ?_
   try simp only [entryEnv, Nat.reduceAdd, List.nil_append, List.cons_append, emptyHp]
   repeat' (first | refine goS ?_ | (refine go2 ?_ ?_ <;> intro hh) | fail)
   all_goals (simp only [resV_def (X := dX c) Tryz.func91, Tryz.results91]; first | exact J5 | refine J6 ?_)
   exact ⟨_, rfl, HST.out.ext HL.out.1 HL.out.2.2 HX.out, .ext HX.out⟩
  | false =>
   have hn1 : ¬ hands >= st.2 := by simp only [decide_eq_false_iff_not] at g1; omega
   cases g2 : (left.any fun s => decide (ocF s > ((0 : Nat) : Int))) with
   | true =>
    rw [g2] at k92a
    rw [goP_cut (by rw [g2, Bool.or_true])]
    clear hn1 g2
    refine ClR.walk (c := _) h91 Tryz.func91 rfl (by kernel_rfl) rfl seR_fail ?_
    try simp only [entryEnv, Nat.reduceAdd, List.nil_append, List.cons_append, emptyHp]
    repeat' (first | refine goS ?_ | (apply U6; exact Z1; exact Z1; (exact k92a); simp only [pM, pN, rR, rP]) | (refine go2 ?_ ?_ <;> intro hh) | fail)
    all_goals (simp only [resV_def (X := dX c) Tryz.func91, Tryz.results91]; first | exact J5 | refine J6 ?_)
    exact ⟨_, rfl, HST.out.ext HL.out.1 HL.out.2.2 HX.out, .ext HX.out⟩
   | false =>
    rw [g2] at k92a
    have hg : goP (C := bzC) (O := O) 0 now.length now left hands st = if (left.any fun s => s != 0) = true then st else (some now, hands) := by
     rw [goP, if_neg]
     rw [g2, Bool.or_false]
     simpa using hn1
    rw [hg]
    clear hg hn1 g2
    cases g3 : (left.any fun s => s != 0) with
    | true =>
     rw [g3] at k92b
     rw [if_pos rfl]
     clear g3
     refine ClR.walk (c := _) h91 Tryz.func91 rfl (by kernel_rfl) rfl seR_fail ?_
     try simp only [entryEnv, Nat.reduceAdd, List.nil_append, List.cons_append, emptyHp]
     repeat' (first | refine goS ?_ | (apply U6; exact Z1; exact Z1; (focus (first | exact k92a | exact k92b)); simp only [pM, pN, rR, rP]) | (refine go2 ?_ ?_ <;> intro hh) | fail)
     all_goals (simp only [resV_def (X := dX c) Tryz.func91, Tryz.results91]; first | exact J5 | refine J6 ?_)
     exact ⟨_, rfl, HST.out.ext HL.out.1 HL.out.2.2 HX.out, .ext HX.out⟩
    | false =>
     rw [g3] at k92b
     rw [if_neg (by simp)]
     have b4 : (bo == bf) = false := by have := HNE.out; simp only [beq_eq_false_iff_ne, ne_eq]; omega
     clear g3
     refine ClR.walk (c := _) h91 Tryz.func91 rfl (by kernel_rfl) rfl seR_fail ?_
     try simp only [entryEnv, Nat.reduceAdd, List.nil_append, List.cons_append, emptyHp]
     repeat' (first | refine goS ?_ | (apply U6; exact Z1; exact Z1; (focus (first | exact k92a | exact k92b)); simp only [pM, pN, rR, rP]) | (refine go2 ?_ ?_ <;> intro hh) | fail)
     all_goals (simp only [resV_def (X := dX c) Tryz.func91, Tryz.results91]; first | exact J5 | refine J6 ?_)
     have hne := HNE.out
     have hrel : RelS bf bo ⟨hn, hm⟩ ⟨hn + 1, ((hm.set hn (.var [nv])).set bo (.var [nv])).set bf (.var [.int .i64 ↑hands])⟩ := ⟨Nat.le_succ _, fun id h1 h2 h3 => by
      simp only at h1
      rw [hget_set, if_neg (fun e => h2 e.symm), hget_set, if_neg (fun e => h3 e.symm), hget_set, if_neg (by omega)]
      rfl⟩
     refine ⟨_, rfl, ⟨?_, nv, ?_, .inr ⟨now, rfl, HNOW.out.relS HST.out.cell hrel⟩⟩, hrel⟩
     ·rw [hget_set, if_pos rfl]
     ·rw [hget_set, if_neg (by omega), hget_set, if_pos rfl]
end
end Go.AM
namespace Go.AM
open Go Go.Proofs
variable [Keep]
attribute [local irreducible] W WO WO1 WD WQ WT thenQ blockQ endR isRet retK Cl ClR
open Go.TX (Rm Fa Ha Hs)
theorem RowsV.snoc {h h' : Heap} {v : AV} {els : List AV} {g : List (List Int)} {b : AV} {p : List Int} (hv : Blt h' v 1 (els ++ [b])) (hl : els.length = g.length) (he : ∀ (k : Nat) (p : List Int), g[k]? = some p -> ∃ b, els[k]? = some b /\ Blt h b 1 (intsE p)) (x : HExt h h') (hb : Blt h b 1 (intsE p)) : RowsV h' v (g ++ [p]) := by
 refine ⟨els ++ [b], hv, by simp [hl], fun k q hk => ?_⟩
 by_cases e : k < g.length
 ·rw [List.getElem?_append_left e] at hk
  obtain ⟨b', b1, b2⟩ := he k q hk
  exact ⟨b', by rw [List.getElem?_append_left (by omega)]; exact b1, b2.ext x⟩
 ·rw [List.getElem?_append_right (by omega)] at hk
  have h0 : k - g.length = 0 := by
   obtain ⟨h1, _⟩ := List.getElem?_eq_some_iff.1 hk
   simp only [List.length_cons, List.length_nil] at h1
   omega
  rw [h0] at hk
  simp only [List.getElem?_cons_zero, Option.some.injEq] at hk
  subst hk
  exact ⟨b, by rw [List.getElem?_append_right (by omega), hl, h0]; rfl, hb.ext x⟩
attribute [local irreducible] hasB takeP fitsP andN bitI tkF fitF ocF mny bzC goP clR
section
variable {c : Itr}
set_option maxHeartbeats 16000000 in
theorem R91_18 (h98 : c 98 = none) (Q : Out -> Prop) (e : Mp AV) (lm : Mp (Nat × List AV)) (hp : Heap) (nv pa tv : AV) (now : List (List Int)) (p : List Int) (many b8 bf bh bo bw bs : Nat) (st' : Option (List (List Int)) × Nat) (hnow : RowsV hp nv now) (hnl : now.length <= 100) (hpa : Blt hp pa 1 (intsE p)) (otv : outV (some tv) = some tv)
  (g8 : hp.get b8 = some (.var [nv])) (gs : hp.get bs = some (.var [.func (.func 91) [] [.ptr bf 0, .ptr bh 0, .ptr bo 0, .ptr bw 0, .ptr bs 0]])) (ls : bs < hp.next)
  (hrec' : ∀ v h', HExt hp h' -> RowsV h' v (now ++ [p]) -> ClR (dX c) 91 (([] ++ [v, tv, .int .i64 (many : Int)]) ++ [.ptr bf 0, .ptr bh 0, .ptr bo 0, .ptr bw 0, .ptr bs 0]) h' (seR bf bo h' st'))
  (c7 : e.get 7 = some (.ptr bs 0)) (c8 : e.get 8 = some (.ptr b8 0)) (c12 : e.get 12 = some pa) (c13 : e.get 13 = some tv) (c14 : e.get 14 = some (.int .i64 (many : Int)))
  (hgo : ∀ e' lm' h2, keepE [1, 2, 7, 8, 40, 41, 42] e e' -> StS bf bo h2 st' -> RelS bf bo hp h2 -> Q (.norm (Fr.mk 91 false e' lm' h2 [] none))) :
  W (dX c) (blkFrom Tryz.f91 1 4) (Fr.mk 91 false e lm hp [] none) Q := by
 obtain ⟨on, ln, cn, tn⟩ := hnow.parts
 obtain ⟨els, n1, n2, n3⟩ := hnow
 have opa := hpa.out
 have hcp : pa.cells = [pa] /\ isTuple pa = false := by rcases hpa with ⟨rfl, _⟩ | ⟨id, rfl, _⟩ <;> exact ⟨rfl, rfl⟩
 obtain ⟨hcp, htp⟩ := hcp
 have hsc : pa.cells.length = 1 := by rw [hcp]; rfl
 have hsz : ∀ v ∈ els, v.cells.length = 1 := fun v hv => by
  obtain ⟨k, hk, rfl⟩ := List.getElem_of_mem hv
  obtain ⟨q, hq⟩ := get_some (l := now) (k := k) (by omega)
  obtain ⟨b, b1, b2⟩ := n3 k q hq
  rw [List.getElem?_eq_getElem hk] at b1
  rw [Option.some.inj b1]
  rcases b2 with ⟨rfl, _⟩ | ⟨id, rfl, _⟩ <;> rfl
 have hcl := C98 c h98 nv els hp n1 hsz (by omega)
 unfold ClR clR at hcl
 obtain ⟨_, hcl98, v1, h1, rfl, hB, hX⟩ := hcl
 have ov1 := hB.blt.out
 have gs1 := (hX.2 bs ls).trans gs
 have hll : els.length + 1 <= most := by unfold most; omega
 have HREC := J1 hrec'
 have HGO := J1 hgo
 have HPA := J1 hpa
 have N2 := J1 n2
 have N3 := J1 n3
 have HX := J1 hX
 have HLS := J1 ls
 simp only [AV.cells] at cn hcp
 simp only [isTuple] at tn htp
 clear hrec' hgo hpa n1 n2 n3 hsz ls
 repeat' (first | (apply W.draw (id := 18) (lc := [0, 1, 2, 3, 4, 5, 6, 7, 8]) (hot := [(0, 2), (0, 5)]); kernel_rfl; kernel_rfl; kernel_rfl; exact Z4) | (apply WD.cons (o := ⟨some 87, _, _, _, _, none⟩); exact rfl; exact rfl) | (refine WD.cons rfl rfl ?_) | (refine WD.nil ⟨?_, ?_⟩; rotate_left; simp only [tN, bN, eN, true_and]) | (refine calmR rfl rfl rfl rfl rfl ?_ ?_; (focus (first | exact Z2 | exact Z1))) | (refine calmE rfl rfl rfl rfl rfl ?_ ?_; (focus (first | exact Z2 | exact Z1))) | (with_reducible refine calmEnd) | (apply WO1.appendN (t := 36) (u := 36) (e := 24) (e' := 24) (sz := 1) (tl := []) (hb := hB) (hx := HExt.pair hX); exact Z1; exact rfl; exact Z2; exact Z2; exact Z2; (focus (exact ty_row36)); exact Z1; (focus (intro v hv; simp at hv; subst hv; first | rfl | exact hsc)); (focus (simp only [List.length_map, List.length_cons, List.length_nil]; exact hll)); (focus (simp)); (intro v' h' hB' ho' hX'; have hcc' := hB'.blt.cells; have htt' := hB'.blt.tup; simp only [AV.cells] at hcc'; simp only [isTuple] at htt'; simp only [pM, pN])) | refine go1 ?_ | (apply U6; exact Z1; exact Z1; (exact hcl98); simp only [pM, pN, rR, rP]) | (refine go2 ?_ ?_ <;> intro hh) | fail)
 have hbl := hB'.blt
 have hXX : HExt hp h' := hX'
 have hrows := RowsV.snoc hbl N2.out N3.out hXX HPA.out
 have hr := HREC.out v' h' hXX hrows
 unfold ClR seR at hr
 obtain ⟨_, hrec, h2, rfl, hs2, hr2⟩ := hr
 have gs2 : h'.get bs = _ := (hXX.2 bs HLS.out).trans gs
 have HS2 := J1 hs2
 have HR2 := J1 ((RelS.ext hXX).trans hr2)
 clear hB hX hB' hX' hbl hXX hs2 hr2 hrows hll
 repeat' (first | (apply W.draw (id := 18) (lc := [0, 1, 2, 3, 4, 5, 6, 7, 8]) (hot := [(0, 2), (0, 5)]); kernel_rfl; kernel_rfl; kernel_rfl; exact Z4) | (apply WD.cons (o := ⟨some 87, _, _, _, _, none⟩); exact rfl; exact rfl) | (refine WD.cons rfl rfl ?_) | (refine WD.nil ⟨?_, ?_⟩; rotate_left; simp only [tN, bN, eN, true_and]) | (refine calmR rfl rfl rfl rfl rfl ?_ ?_; (focus (first | exact Z2 | exact Z1))) | (refine calmE rfl rfl rfl rfl rfl ?_ ?_; (focus (first | exact Z2 | exact Z1))) | (with_reducible refine calmEnd) | refine go1 ?_ | (apply U6; exact Z1; exact Z1; (focus (first | exact hcl98 | exact hrec)); simp only [pM, pN, rR, rP]) | (refine go2 ?_ ?_ <;> intro hh) | fail)
 refine WD.nil ⟨?_, HGO.out _ _ _ ?_ HS2.out HR2.out⟩
 ·repeat' (first | (apply W.draw (id := 18) (lc := [0, 1, 2, 3, 4, 5, 6, 7, 8]) (hot := [(0, 2), (0, 5)]); kernel_rfl; kernel_rfl; kernel_rfl; exact Z4) | (apply WD.cons (o := ⟨some 87, _, _, _, _, none⟩); exact rfl; exact rfl) | (refine WD.cons rfl rfl ?_) | (refine WD.nil ⟨?_, ?_⟩; rotate_left; simp only [tN, bN, eN, true_and]) | (refine calmR rfl rfl rfl rfl rfl ?_ ?_; (focus (first | exact Z2 | exact Z1))) | (refine calmE rfl rfl rfl rfl rfl ?_ ?_; (focus (first | exact Z2 | exact Z1))) | (with_reducible refine calmEnd) | refine go1 ?_ | (apply U6; exact Z1; exact Z1; (focus (first | exact hcl98 | exact hrec)); simp only [pM, pN, rR, rP]) | (refine go2 ?_ ?_ <;> intro hh) | fail)
 ·exact J7
end
end Go.AM
namespace Go.AM
open Go Go.Proofs
variable [Keep]
attribute [local irreducible] W WO WO1 WD WQ WT thenQ blockQ endR isRet retK Cl ClR
open Go.TX (Rm Fa Ha Hs)
attribute [local irreducible] hasB takeP fitsP andN bitI tkF fitF ocF mny bzC goP clR busyL
section
variable {c : Itr}
set_option maxHeartbeats 16000000 in
theorem R91_0 (h96 : c 96 = none) (h97 : c 97 = some (flatFnD sp97)) (h98 : c 98 = none) (h89 : c 89 = some (pureFn sp89)) (K : Fr -> Prop) (Q : Out -> Prop) (e : Mp AV) (lm : Mp (Nat × List AV)) (hp : Heap) (nv lv bv pb : AV) (now : List (List Int)) (left p : List Int) (nn hands b8 bf bh bo bw bs k N idr : Nat) (el : List AV) (st' : Option (List (List Int)) × Nat)
  (hnow : RowsV hp nv now) (hnl : now.length <= 100) (vl : IntsV hp lv left) (hll : left.length = nn) (hn1 : 1 <= nn) (hn4 : nn <= 4) (hso : SetsOk left) (hhl : hands <= 20) (hkN : k < N) (hNm : N <= maxL)
  (hg : hp.get idr = some (.rw 1 el)) (hek : el[k]? = some pb) (hix : indexAddrV Tryz.prog hp 36 bv (.int .i64 (k : Int)) = some (.eptr idr 1 k 0)) (hpb : Blt hp pb 1 (intsE p)) (hpn : p.length = nn) (hpl : PLt 3 p)
  (g8 : hp.get b8 = some (.var [nv])) (l8 : b8 < hp.next) (gs : hp.get bs = some (.var [.func (.func 91) [] [.ptr bf 0, .ptr bh 0, .ptr bo 0, .ptr bw 0, .ptr bs 0]])) (ls : bs < hp.next) (lidr : idr < hp.next)
  (hrec' : fitsP left p = true -> ∀ v tv h', HExt hp h' -> RowsV h' v (now ++ [p]) -> IntsV h' tv (takeP left p) -> ClR (dX c) 91 (([] ++ [v, tv, .int .i64 ((hands + bzC p : Nat) : Int)]) ++ [.ptr bf 0, .ptr bh 0, .ptr bo 0, .ptr bw 0, .ptr bs 0]) h' (seR bf bo h' st'))
  (c1 : e.get 1 = some lv) (c2 : e.get 2 = some (.int .i64 (hands : Int))) (c7 : e.get 7 = some (.ptr bs 0)) (c8 : e.get 8 = some (.ptr b8 0)) (c40 : e.get 40 = some bv) (c41 : e.get 41 = some (.int .i64 (N : Int))) (c42 : e.get 42 = some (.int .i64 (k : Int)))
  (hskip : fitsP left p = false -> ∀ e' lm' h', keepE [1, 2, 7, 8, 40, 41] e e' -> e'.get 42 = some (.int .i64 ((k + 1 : Nat) : Int)) -> HExt hp h' -> K (Fr.mk 91 false e' lm' h' [] none))
  (hgo : fitsP left p = true -> ∀ e' lm' h2, keepE [1, 2, 7, 8, 40, 41] e e' -> e'.get 42 = some (.int .i64 ((k + 1 : Nat) : Int)) -> StS bf bo h2 st' -> RelS bf bo hp h2 -> K (Fr.mk 91 false e' lm' h2 [] none)) :
  W (dX c) (loopIn Tryz.f91 0) (Fr.mk 91 false e lm hp [] none) (thenQ K Q) := by
 have hdk : decide ((k : Int) < (N : Int)) = true := by simpa using hkN
 have hwk : IntKind.i64.wrap ((k : Int) + 1) = ((k + 1 : Nat) : Int) := wrap_succ hkN hNm
 have opb := hpb.out
 have ol := vl.out
 have hcp : pb.cells = [pb] /\ isTuple pb = false := by rcases hpb with ⟨rfl, _⟩ | ⟨id, rfl, _⟩ <;> exact ⟨rfl, rfl⟩
 obtain ⟨hcp, htp⟩ := hcp
 have hlne : left ≠ [] := fun e => by rw [e] at hll; simp at hll; omega
 have hcl := C96i c h96 lv left hp vl hlne (by omega)
 unfold ClR clR at hcl
 obtain ⟨_, hcl96, v1, h1, rfl, hB, hX⟩ := hcl
 obtain ⟨tid, rfl, hgt, hti0, hti⟩ : ∃ tid, v1 = .row tid 0 p.length /\ h1.get tid = some (.rw 1 (intsE left)) /\ hp.next <= tid /\ tid < h1.next := by
  rcases hB with ⟨_, e⟩ | ⟨id, q1, q2, q3, q4, _⟩
  ·exact absurd (by cases left with | nil => rfl | cons x l => unfold intsE at e; simp at e) hlne
  ·exact ⟨id, by rw [q1, intsE_len]; rw [hll, hpn], q2, q3, q4⟩
 have hpb1 := hpb.ext hX
 have k97 := K97r (X := dX c) h97 (pth_blt hpb1 (by unfold maxL; omega))
 rw [worked_busy (by omega) (fun x hx => (hpl x hx).1)] at k97
 have hpt : ∀ off n, pb ≠ .row tid off n := fun off n e => by
  rcases hpb with ⟨q, _⟩ | ⟨id, q, _, q3, _⟩
  ·rw [q] at e; cases e
  ·rw [q] at e; cases e; omega
 have hlt' : ∀ off n, lv ≠ .row tid off n := fun off n e => by
  rcases vl with v | ⟨v, _⟩
  ·rcases (slV_is v).1 with ⟨q, _⟩ | q
   ·rcases q with q | q <;> (rw [q] at e; cases e)
   ·rw [q] at e; cases e
  ·rcases v with ⟨q, _⟩ | ⟨id, q, _, q3, _⟩
   ·rw [q] at e; cases e
   ·rw [q] at e; cases e; omega
 have hvl1 : IntsV h1 lv left := by
  rcases vl with v | ⟨v, m⟩
  ·exact .inl v
  ·exact .inr ⟨v.ext hX, m⟩
 have hnow1 : ∀ h2, HExt hp h2 -> RowsV h2 nv now := fun h2 x => by
  obtain ⟨els, q1, q2, q3⟩ := hnow
  exact ⟨els, q1.ext x, q2, fun k p hk => by obtain ⟨b, b1, b2⟩ := q3 k p hk; exact ⟨b, b1, b2.ext x⟩⟩
 have hsame : ∀ h2 : Heap, h2.next = h1.next -> (∀ id, id ≠ tid -> h2.get id = h1.get id) -> HExt hp h2 := fun h2 z1 z2 => ⟨by rw [z1]; exact hX.1, fun id hid => (z2 id (by omega)).trans (hX.2 id hid)⟩
 obtain ⟨many, hmany⟩ : ∃ many, many = hands + bzC p := ⟨_, rfl⟩
 rw [<- hmany] at hrec'
 have HVP := J1 (show IntsV h1 pb p from .inr ⟨hpb1, by unfold maxL; omega⟩)
 have HVL := J1 hvl1
 have HLEN := J1 (hll.trans hpn.symm)
 have HPL := J1 hpl
 have HSO := J1 hso
 have HGT := J1 hgt
 have HTI := J1 hti
 have HPT := J1 hpt
 have HLTT := J1 hlt'
 have HNOW1 := J1 hnow1
 have HSAME := J1 hsame
 have HREC := J1 hrec'
 have HSKIP := J1 hskip
 have HGO := J1 hgo
 have HPB := J1 hpb
 have HNL := J1 hnl
 have HG8 := J1 g8
 have HGS := J1 gs
 have HLS := J1 ls
 have HL8 := J1 l8
 have HPN := J1 hpn
 have HX := J1 hX
 have HPN1 := J1 (show p.length ≠ 0 by omega)
 have HLM := J1 (show left.length <= maxL by unfold maxL; omega)
 have hbzc : bzC p = if 0 < busyL p then 1 else 0 := by unfold bzC; rfl
 simp only [AV.cells] at hcp
 simp only [isTuple] at htp
 by_cases hbz : 0 < busyL p
 ·have d0 : decide ((busyL p : Int) > 0) = true := by simp only [decide_eq_true_eq]; omega
  have hw : IntKind.i64.wrap ((hands : Int) + 1) = (many : Int) := by
   rw [hbzc, if_pos hbz] at hmany
   have := w64_small (n := (hands : Int) + 1) (by omega) (by omega)
   unfold w64 at this
   rw [this]
   omega
  clear hB hX hgt hti0 hti hpb1 hpt hlt' hvl1 hnow1 hsame hmany hnow hnl vl hll hn1 hn4 hso hhl hkN hNm hpb hpn hpl g8 l8 gs ls hrec' hskip hgo hlne hbzc hbz
  repeat' (first | (refine L91_2 (c := c) (h89 := h89) (Q := _) (e := _) (lm := _) (hp0 := h1) (pa := pb) (lv := lv) (p := p) (l := left) (tid := tid) (vp := HVP.out) (vl := HVL.out) (hlen := HLEN.out) (hpl := HPL.out) (hs := HSO.out) (hgt := HGT.out) (hti := HTI.out) (hpt := HPT.out) (hlt' := HLTT.out) (z2 := .int .i64 (hands : Int)) (z7 := .ptr bs 0) (z8 := .ptr b8 0) (z14 := .int .i64 (many : Int)) (z40 := bv) (z41 := .int .i64 (N : Int)) (z42 := .int .i64 (k : Int)) (z8b := _) (d8 := rfl) (c1 := Z2) (c2 := Z2) (c7 := Z2) (c8 := Z2) (c12 := Z2) (c13 := Z2) (c14 := Z2) (c40 := Z2) (c41 := Z2) (c42 := Z2) (hno := ?_) (hyes := ?_)) | refine go1 ?_ | (apply U6; exact Z1; exact Z1; (focus (first | exact hcl96 | exact k97)); simp only [pM, pN, rR, rP]) | (refine go2 ?_ ?_ <;> intro hh) | fail)
  ·intro hf e' lm' hp' ke hn2 hg2
   simp only [keepE, and_true, go_sem, *, Nat.reduceBEq, Nat.reduceEqDiff, reduceIte] at ke
   obtain ⟨g1, g2, g7, g8', g40, g41, g42⟩ := ke
   have HX2 := J1 (HSAME.out hp' hn2 hg2)
   have HF := J1 hf
   clear hn2 hg2 hf
   simp only [bS, tN]
   repeat' (first | refine goS ?_ | (refine go2 ?_ ?_ <;> intro hh) | fail)
   all_goals refine HSKIP.out HF.out _ _ _ ?_ ?_ HX2.out
   all_goals exact J7
  ·intro hf e' lm' hp' ke hn2 hg2 ht2
   simp only [keepE, and_true, go_sem, *, Nat.reduceBEq, Nat.reduceEqDiff, reduceIte] at ke
   obtain ⟨g1, g2, g7, g8', g12, g13, g14, g40, g41, g42⟩ := ke
   have hx2 := HSAME.out hp' hn2 hg2
   refine R91_18 (c := c) (h98 := h98) (Q := _) (e := e') (lm := lm') (hp := hp') (nv := nv) (pa := pb) (tv := .row tid 0 p.length) (now := now) (p := p) (many := many) (b8 := b8) (bf := bf) (bh := bh) (bo := bo) (bw := bw) (bs := bs) (st' := st') (hnow := HNOW1.out hp' hx2) (hnl := HNL.out) (hpa := HPB.out.ext hx2) (otv := rfl) (g8 := (hx2.2 b8 HL8.out).trans HG8.out) (gs := (hx2.2 bs HLS.out).trans HGS.out) (ls := Nat.lt_of_lt_of_le HLS.out hx2.1) (hrec' := fun v h2 x2 r2 => HREC.out hf v (.row tid 0 p.length) h2 (hx2.trans x2) r2 ?_) (c7 := g7) (c8 := g8') (c12 := g12) (c13 := g13) (c14 := g14) (hgo := fun e2 lm2 h2 ke2 hs2 hr2 => ?_)
   ·have hl9 : (intsE (takeP left p)).length = p.length := by rw [intsE_len, takeP_len]; exact HLEN.out
    have ht9 : tid < hp'.next := by rw [hn2]; exact HTI.out
    have hb9 : Blt h2 (.row tid 0 (intsE (takeP left p)).length) 1 (intsE (takeP left p)) := .inr ⟨tid, rfl, (x2.2 tid ht9).trans ht2, Nat.lt_of_lt_of_le ht9 x2.1, fun e => by rw [e, List.length_nil] at hl9; have := HPN1.out; omega⟩
    rw [hl9] at hb9
    exact .inr ⟨hb9, by rw [takeP_len]; exact HLM.out⟩
   ·have HX2 := J1 ((RelS.ext hx2).trans hr2)
    have HS2 := J1 hs2
    have HF := J1 hf
    simp only [keepE, and_true] at ke2
    obtain ⟨k1, k2, k7, k8, k40, k41, k42⟩ := ke2
    rw [g1] at k1
    rw [g2] at k2
    rw [g7] at k7
    rw [g8'] at k8
    rw [g40] at k40
    rw [g41] at k41
    rw [g42] at k42
    clear hn2 hg2 ht2 hx2 hr2 hs2 hf g1 g2 g7 g8' g12 g13 g14 g40 g41 g42
    simp only [bN, tN]
    repeat' (first | refine goS ?_ | (refine go2 ?_ ?_ <;> intro hh) | fail)
    all_goals refine HGO.out HF.out _ _ _ ?_ ?_ HS2.out HX2.out
    all_goals exact J7
 ·have d0 : decide ((busyL p : Int) > 0) = false := by simp only [decide_eq_false_iff_not]; omega
  have hmz : (hands : Int) = (many : Int) := by rw [hbzc, if_neg hbz] at hmany; omega
  clear hB hX hgt hti0 hti hpb1 hpt hlt' hvl1 hnow1 hsame hmany hnow hnl vl hll hn1 hn4 hso hhl hkN hNm hpb hpn hpl g8 l8 gs ls hrec' hskip hgo hlne hbzc hbz
  repeat' (first | (refine L91_2 (c := c) (h89 := h89) (Q := _) (e := _) (lm := _) (hp0 := h1) (pa := pb) (lv := lv) (p := p) (l := left) (tid := tid) (vp := HVP.out) (vl := HVL.out) (hlen := HLEN.out) (hpl := HPL.out) (hs := HSO.out) (hgt := HGT.out) (hti := HTI.out) (hpt := HPT.out) (hlt' := HLTT.out) (z2 := .int .i64 (hands : Int)) (z7 := .ptr bs 0) (z8 := .ptr b8 0) (z14 := .int .i64 (many : Int)) (z40 := bv) (z41 := .int .i64 (N : Int)) (z42 := .int .i64 (k : Int)) (z8b := _) (d8 := rfl) (c1 := Z2) (c2 := Z2) (c7 := Z2) (c8 := Z2) (c12 := Z2) (c13 := Z2) (c14 := Z2) (c40 := Z2) (c41 := Z2) (c42 := Z2) (hno := ?_) (hyes := ?_)) | refine go1 ?_ | (apply U6; exact Z1; exact Z1; (focus (first | exact hcl96 | exact k97)); simp only [pM, pN, rR, rP]) | (refine go2 ?_ ?_ <;> intro hh) | fail)
  ·intro hf e' lm' hp' ke hn2 hg2
   simp only [keepE, and_true, go_sem, *, Nat.reduceBEq, Nat.reduceEqDiff, reduceIte] at ke
   obtain ⟨g1, g2, g7, g8', g40, g41, g42⟩ := ke
   have HX2 := J1 (HSAME.out hp' hn2 hg2)
   have HF := J1 hf
   clear hn2 hg2 hf
   simp only [bS, tN]
   repeat' (first | refine goS ?_ | (refine go2 ?_ ?_ <;> intro hh) | fail)
   all_goals refine HSKIP.out HF.out _ _ _ ?_ ?_ HX2.out
   all_goals exact J7
  ·intro hf e' lm' hp' ke hn2 hg2 ht2
   simp only [keepE, and_true, go_sem, *, Nat.reduceBEq, Nat.reduceEqDiff, reduceIte] at ke
   obtain ⟨g1, g2, g7, g8', g12, g13, g14, g40, g41, g42⟩ := ke
   have hx2 := HSAME.out hp' hn2 hg2
   refine R91_18 (c := c) (h98 := h98) (Q := _) (e := e') (lm := lm') (hp := hp') (nv := nv) (pa := pb) (tv := .row tid 0 p.length) (now := now) (p := p) (many := many) (b8 := b8) (bf := bf) (bh := bh) (bo := bo) (bw := bw) (bs := bs) (st' := st') (hnow := HNOW1.out hp' hx2) (hnl := HNL.out) (hpa := HPB.out.ext hx2) (otv := rfl) (g8 := (hx2.2 b8 HL8.out).trans HG8.out) (gs := (hx2.2 bs HLS.out).trans HGS.out) (ls := Nat.lt_of_lt_of_le HLS.out hx2.1) (hrec' := fun v h2 x2 r2 => HREC.out hf v (.row tid 0 p.length) h2 (hx2.trans x2) r2 ?_) (c7 := g7) (c8 := g8') (c12 := g12) (c13 := g13) (c14 := g14) (hgo := fun e2 lm2 h2 ke2 hs2 hr2 => ?_)
   ·have hl9 : (intsE (takeP left p)).length = p.length := by rw [intsE_len, takeP_len]; exact HLEN.out
    have ht9 : tid < hp'.next := by rw [hn2]; exact HTI.out
    have hb9 : Blt h2 (.row tid 0 (intsE (takeP left p)).length) 1 (intsE (takeP left p)) := .inr ⟨tid, rfl, (x2.2 tid ht9).trans ht2, Nat.lt_of_lt_of_le ht9 x2.1, fun e => by rw [e, List.length_nil] at hl9; have := HPN1.out; omega⟩
    rw [hl9] at hb9
    exact .inr ⟨hb9, by rw [takeP_len]; exact HLM.out⟩
   ·have HX2 := J1 ((RelS.ext hx2).trans hr2)
    have HS2 := J1 hs2
    have HF := J1 hf
    simp only [keepE, and_true] at ke2
    obtain ⟨k1, k2, k7, k8, k40, k41, k42⟩ := ke2
    rw [g1] at k1
    rw [g2] at k2
    rw [g7] at k7
    rw [g8'] at k8
    rw [g40] at k40
    rw [g41] at k41
    rw [g42] at k42
    clear hn2 hg2 ht2 hx2 hr2 hs2 hf g1 g2 g7 g8' g12 g13 g14 g40 g41 g42
    simp only [bN, tN]
    repeat' (first | refine goS ?_ | (refine go2 ?_ ?_ <;> intro hh) | fail)
    all_goals refine HGO.out HF.out _ _ _ ?_ ?_ HS2.out HX2.out
    all_goals exact J7
end
end Go.AM
namespace Go.AM
open Go Go.Proofs
variable [Keep]
attribute [local irreducible] W WO WO1 WD WQ WT thenQ blockQ endR isRet retK Cl ClR
open Go.TX (Rm Fa Ha Hs)
theorem goP_step {C : List Int -> Nat} {O : Nat -> List (List Int)} {d i : Nat} {now : List (List Int)} {left : List Int} {hands : Nat} {st : Option (List (List Int)) × Nat} (h : (decide (hands >= st.2) || left.any fun s => decide (ocF s > ((d + 1 : Nat) : Int))) = false) : goP (C := C) (O := O) (d + 1) i now left hands st = (O i).foldl (fun st p => if fitsP left p = true then goP (C := C) (O := O) d (i + 1) (now ++ [p]) (takeP left p) (hands + C p) st else st) st := by
 rw [goP, if_neg (by rw [h]; simp)]
attribute [local irreducible] hasB takeP fitsP andN bitI tkF fitF ocF mny bzC goP busyL
section
variable {c : Itr}
set_option maxHeartbeats 16000000 in
theorem G91 (h91 : c 91 = none) (h92 : c 92 = none) (h141 : c 141 = none) (h93 : c 93 = none) (h95 : c 95 = none) (h94 : c 94 = none) (h96 : c 96 = none) (h97 : c 97 = some (flatFnD sp97)) (h98 : c 98 = none) (h143 : c 143 = some (pureFn sp143)) (h89 : c 89 = some (pureFn sp89)) (H nn : Nat) (hH : H <= 4) (hn1 : 1 <= nn) (hn4 : nn <= 4) (n : Int) (ra fa oa ha wv : AV) (O : Nat -> List (List Int)) (bf bh bo bw bs : Nat) (lh : lenS ha = some H) (o1 : outV (some ra) = some ra) (o2 : outV (some fa) = some fa) (o3 : outV (some oa) = some oa) (o4 : outV (some ha) = some ha) (hO : ∀ i p, p ∈ O i -> p.length = nn /\ PLt 3 p) (hOl : ∀ i, (O i).length <= maxL) :
  ∀ d now nv lv left (hands : Nat) st h, now.length + d = H -> RowsV h nv now -> IntsV h lv left -> left.length = nn -> SetsOk left -> hands + d <= 10 -> StS bf bo h st -> EnvS bf bh bo bw bs H n ra fa oa ha wv O h ->
  ClR (dX c) 91 [nv, lv, .int .i64 (hands : Int), .ptr bf 0, .ptr bh 0, .ptr bo 0, .ptr bw 0, .ptr bs 0] h (seR bf bo h (goP (C := bzC) (O := O) d now.length now left hands st)) := by
 intro d
 induction d with
 | zero => exact fun now nv lv left hands st h a1 a2 a3 a4 a5 a6 a7 a8 => G91z h91 h92 h141 h93 h95 h94 h143 h89 H nn hH n ra fa oa ha wv O bf bh bo bw bs lh o1 o2 o3 o4 hO now nv lv left hands st h a1 a2 a3 a4 a5 (by omega) a7 a8
 | succ d ih =>
  intro now nv lv left hands st h hid hnow hlv hll hso hhl hst hen
  obtain ⟨hn, hm⟩ := h
  have hen0 := hen
  obtain ⟨e1, e2, e3, e4, e5, e6⟩ := hen
  obtain ⟨l1, l2, l3, l4, l5⟩ := e5
  obtain ⟨on, ln, cn, tn⟩ := hnow.parts
  have ol := hlv.out
  obtain ⟨ov, q1, q2⟩ := hst.out
  have few := hst.few
  have b1 : (hn == bf) = false := by simp only [beq_eq_false_iff_ne, ne_eq]; simp only at l1; omega
  have b2 : (hn == bh) = false := by simp only [beq_eq_false_iff_ne, ne_eq]; simp only at l2; omega
  have b3 : (hn == bo) = false := by simp only [beq_eq_false_iff_ne, ne_eq]; simp only at l3; omega
  have b5 : (hn == bw) = false := by simp only [beq_eq_false_iff_ne, ne_eq]; simp only at l4; omega
  have hx : HExt ⟨hn, hm⟩ ⟨hn + 1, hm.set hn (.var [nv])⟩ := ⟨Nat.le_succ _, fun id hi => by
   simp only at hi
   rw [hget_set, if_neg (by omega)]
   rfl⟩
  have hl2 : IntsV ⟨hn + 1, hm.set hn (.var [nv])⟩ lv left := hlv.relS hst.cell (.ext hx)
  have k92a := C92r h92 h141 hl2 93 [] [.ptr bh 0, .ptr hn 0] (fun s => decide (ocF s > ((H - now.length : Nat) : Int))) (fun s hs => C93 (c := c) h93 h94 h143 ((hx.2 bh l2).trans e1) (by rw [hget_set, if_pos rfl]) lh o4 ln on (by omega) (by omega) s (hso s hs))
  have hHn : H - now.length = d + 1 := by omega
  rw [hHn] at k92a
  have hee : ((now.length : Int) == (H : Int)) = false := by simp only [beq_eq_false_iff_ne, ne_eq]; omega
  have HST := J1 hst
  have HNOW := J1 hnow
  have HX := J1 hx
  have HNE := J1 e6
  simp only [hp_get] at e1 e2 q1 few
  simp only [AV.cells] at cn
  simp only [isTuple] at tn
  have HL := J1 (And.intro l1 (And.intro l2 l3))
  cases g1 : decide ((hands : Int) >= (st.2 : Int)) with
  | true =>
   have hcut : (decide (hands >= st.2) || left.any fun s => decide (ocF s > ((d + 1 : Nat) : Int))) = true := by
    have : hands >= st.2 := by simp only [decide_eq_true_eq] at g1; omega
    simp [this]
   rw [goP_cut hcut]
   clear hcut hlv hl2 hso hst hnow hx e3 e4 l1 l2 l3 l4 l5 q2 e6 hHn hid hO hen0 ih hOl
   refine ClR.walk (c := _) h91 Tryz.func91 rfl (by kernel_rfl) rfl seR_fail ?_
   try simp only [entryEnv, Nat.reduceAdd, List.nil_append, List.cons_append, emptyHp]
   repeat' (first | refine goS ?_ | (refine go2 ?_ ?_ <;> intro hh) | fail)
   all_goals (simp only [resV_def (X := dX c) Tryz.func91, Tryz.results91]; first | exact J5 | refine J6 ?_)
   exact ⟨_, rfl, HST.out.ext HL.out.1 HL.out.2.2 HX.out, .ext HX.out⟩
  | false =>
   have hn1' : ¬ hands >= st.2 := by simp only [decide_eq_false_iff_not] at g1; omega
   cases g2 : (left.any fun s => decide (ocF s > ((d + 1 : Nat) : Int))) with
   | true =>
    rw [g2] at k92a
    rw [goP_cut (by rw [g2, Bool.or_true])]
    clear hn1' g2 hlv hl2 hso hst hnow hx e3 e4 l1 l2 l3 l4 l5 q2 e6 hHn hid hO hen0 ih hOl
    refine ClR.walk (c := _) h91 Tryz.func91 rfl (by kernel_rfl) rfl seR_fail ?_
    try simp only [entryEnv, Nat.reduceAdd, List.nil_append, List.cons_append, emptyHp]
    repeat' (first | refine goS ?_ | (apply U6; exact Z1; exact Z1; (exact k92a); simp only [pM, pN, rR, rP]) | (refine go2 ?_ ?_ <;> intro hh) | fail)
    all_goals (simp only [resV_def (X := dX c) Tryz.func91, Tryz.results91]; first | exact J5 | refine J6 ?_)
    exact ⟨_, rfl, HST.out.ext HL.out.1 HL.out.2.2 HX.out, .ext HX.out⟩
   | false =>
    rw [g2] at k92a
    rw [goP_step (by rw [g2, Bool.or_false]; simpa using hn1')]
    have hc0 := hst.cell
    have hst1 := hst.ext l1 l3 hx
    have hen1 := hen0.relS hc0 (.ext hx)
    have hnow1 := hnow.relS hc0 (.ext hx)
    have hil : now.length < H := by omega
    obtain ⟨ido, elo, bv, go1, go2, go3, hbv, hlo⟩ := hen1.rows.rd hil
    obtain ⟨obv, lbv, cbv, tbv⟩ := hbv.parts
    have hcell1 := hst1.cell
    have HS1 := J1 hst1
    have HE1 := J1 hen1
    have HN1 := J1 hnow1
    have HL2 := J1 hl2
    have HBV := J1 hbv
    have HCL := J1 hcell1
    have HIH := J1 ih
    have HLL := J1 hll
    have HSO := J1 hso
    have HO' := J1 hO
    have HOL := J1 hOl
    have HHL := J1 hhl
    have HID := J1 hid
    simp only [hp_get] at go1
    simp only [AV.cells] at cbv
    simp only [isTuple] at tbv
    clear hn1' g2 hlv hl2 hso hst hnow hx e3 e4 l1 l2 l3 l4 l5 q2 e6 hHn hid hO hen0 ih hOl hc0 hst1 hen1 hnow1 hil hbv hcell1 hll hhl hlo
    refine ClR.walk (c := _) h91 Tryz.func91 rfl (by kernel_rfl) rfl seR_fail ?_
    try simp only [entryEnv, Nat.reduceAdd, List.nil_append, List.cons_append, emptyHp]
    repeat' (first | refine goS ?_ | (apply U6; exact Z1; exact Z1; (exact k92a); simp only [pM, pN, rR, rP]) | (refine go2 ?_ ?_ <;> intro hh) | fail)
    refine W.label ?_
    simp only [tN, bN]
    repeat' (first | refine goS ?_ | (refine go2 ?_ ?_ <;> intro hh) | fail)
    refine W.loopV ((O now.length).length) [1, 2, 7, 8, 40, 41] [] (fun k e lm hp => e.get 42 = some (.int .i64 ↑k) /\ StS bf bo hp (((O now.length).take k).foldl (fun st p => if fitsP left p = true then goP (C := bzC) (O := O) d (now.length + 1) (now ++ [p]) (takeP left p) (hands + bzC p) st else st) st) /\ RelS bf bo ⟨hn + 1, hm.set hn (.var [nv])⟩ hp) ?_ ?_
    ·skip
     refine ⟨?_, HS1.out, RelS.refl _ _ _⟩
     all_goals first | exact Z2 | (simp [go_sem, *]; done) | skip
    intro k e lm hp hk0 hce hcl hinv
    simp only [keepE, and_true] at hce
    obtain ⟨c1, c2, c7, c8, c40, c41⟩ := hce
    simp only [go_sem, *, Nat.reduceBEq, Nat.reduceEqDiff, reduceIte] at c1 c2 c7 c8 c40 c41
    clear hcl
    obtain ⟨h42, hS, hR⟩ := hinv
    by_cases hlt : k < (O now.length).length
    ·have hd0 : decide ((k : Int) < (((O now.length).length : Nat) : Int)) = true := by first | (simpa using hlt; done) | (simp only [decide_eq_true_eq]; omega)
     have hv_0 := wrap_succ hlt (HOL.out _)
     obtain ⟨p, hpk⟩ := get_some hlt
     have hbv2 := HBV.out.relS HCL.out hR
     obtain ⟨idr, el, pb, r1, r2, r3, r4, r5⟩ := hbv2.rd hpk
     obtain ⟨p1, p2⟩ := HO'.out _ p (List.mem_of_getElem? hpk)
     have hen2 := HE1.out.relS HCL.out hR
     have hnow2 := HN1.out.relS HCL.out hR
     have hlv2 := HL2.out.relS HCL.out hR
     have hl8 : hn < hp.next := Nat.lt_of_lt_of_le (Nat.lt_succ_self hn) hR.next
     have hg8 : hp.get hn = some (.var [nv]) := (hR.same hn (Nat.lt_succ_self hn) (by simpa using b1) (by simpa using b3)).trans (by rw [hget_set, if_pos rfl])
     have hfo : ((O now.length).take (k + 1)).foldl (fun st p => if fitsP left p = true then goP (C := bzC) (O := O) d (now.length + 1) (now ++ [p]) (takeP left p) (hands + bzC p) st else st) st = if fitsP left p = true then goP (C := bzC) (O := O) d (now.length + 1) (now ++ [p]) (takeP left p) (hands + bzC p) (((O now.length).take k).foldl (fun st p => if fitsP left p = true then goP (C := bzC) (O := O) d (now.length + 1) (now ++ [p]) (takeP left p) (hands + bzC p) st else st) st) else ((O now.length).take k).foldl (fun st p => if fitsP left p = true then goP (C := bzC) (O := O) d (now.length + 1) (now ++ [p]) (takeP left p) (hands + bzC p) st else st) st := by rw [take_next hpk, List.foldl_append]; rfl
     obtain ⟨sk, hsk⟩ : ∃ sk, sk = ((O now.length).take k).foldl (fun st p => if fitsP left p = true then goP (C := bzC) (O := O) d (now.length + 1) (now ++ [p]) (takeP left p) (hands + bzC p) st else st) st := ⟨_, rfl⟩
     rw [<- hsk] at hS hfo
     have HFO := J1 hfo
     have HS := J1 hS
     have HR := J1 hR
     refine R91_0 (c := c) h96 h97 h98 h89 _ _ e lm hp nv lv bv pb now left p nn hands hn bf bh bo bw bs k (O now.length).length idr el (goP (C := bzC) (O := O) d (now.length + 1) (now ++ [p]) (takeP left p) (hands + bzC p) sk) hnow2 (by have := HID.out; omega) hlv2 HLL.out hn1 hn4 HSO.out (by have := HHL.out; omega) hlt (HOL.out _) r1 r2 r3 r4 p1 p2 hg8 hl8 hen2.self hen2.lt.2.2.2.2 r5 (fun hf v tv h' hx hr ht => ?_) c1 c2 c7 c8 c40 c41 h42 (fun hf e' lm' h' ke g42 hx => ?_) (fun hf e' lm' h2 ke g42 hs2 hr2 => ?_)
     ·have := HIH.out (now ++ [p]) v tv (takeP left p) (hands + bzC p) _ h' (by rw [List.length_append]; have := HID.out; simp only [List.length_cons, List.length_nil]; omega) hr ht (by rw [takeP_len]; exact HLL.out) (take_ok HSO.out p2 hf) (by have h9 : bzC p <= 1 := by { unfold bzC; split <;> omega }; have := HHL.out; omega) (hS.ext hen2.lt.1 hen2.lt.2.2.1 hx) (hen2.relS hS.cell (.ext hx))
      have e9 : (now ++ [p]).length = now.length + 1 := by simp
      rw [e9] at this
      exact this
     ·have hS3 := hS.ext hen2.lt.1 hen2.lt.2.2.1 hx
      have HS3 := J1 hS3
      have HR3 := J1 (hR.trans (.ext hx))
      have HLT0 := J1 hlt
      have hfo2 := hfo.trans (if_neg (by rw [hf]; simp))
      have HFO2 := J1 hfo2
      clear hS3 hx hS hR hlt hfo hfo2 hsk hbv2 hen2 hnow2 hlv2 hl8 hg8 r1 r2 r3 r4 r5 hpk p1 p2
      simp only [keepE, and_true] at ke
      obtain ⟨k1, k2, k7, k8, k40, k41⟩ := ke
      rw [c1] at k1
      rw [c2] at k2
      rw [c7] at k7
      rw [c8] at k8
      rw [c40] at k40
      rw [c41] at k41
      clear c1 c2 c7 c8 c40 c41 h42
      all_goals refine contV_mk J9 J7 J8 ?_
      all_goals refine ⟨?_, ?_, HR3.out⟩
      all_goals first | exact Z2 | skip
      all_goals first | (rw [HFO2.out]; exact HS3.out) | skip
     ·have HS3 := J1 hs2
      have HR3 := J1 (hR.trans hr2)
      have HLT0 := J1 hlt
      have hfo2 := hfo.trans (if_pos hf)
      have HFO2 := J1 hfo2
      clear hs2 hr2 hS hR hlt hfo hfo2 hsk hbv2 hen2 hnow2 hlv2 hl8 hg8 r1 r2 r3 r4 r5 hpk p1 p2
      simp only [keepE, and_true] at ke
      obtain ⟨k1, k2, k7, k8, k40, k41⟩ := ke
      rw [c1] at k1
      rw [c2] at k2
      rw [c7] at k7
      rw [c8] at k8
      rw [c40] at k40
      rw [c41] at k41
      clear c1 c2 c7 c8 c40 c41 h42
      all_goals refine contV_mk J9 J7 J8 ?_
      all_goals refine ⟨?_, ?_, HR3.out⟩
      all_goals first | exact Z2 | skip
      all_goals first | (rw [HFO2.out]; exact HS3.out) | skip
    ·have hd0 : decide ((k : Int) < (((O now.length).length : Nat) : Int)) = false := by first | (simpa using hlt; done) | (simp only [decide_eq_false_iff_not]; omega)
     obtain rfl : k = (O now.length).length := by omega
     rw [List.take_length] at hS
     have HS := J1 hS
     have HR := J1 ((RelS.ext HX.out).trans hR)
     clear hS hR hlt
     repeat' (first | refine goS ?_ | (refine go2 ?_ ?_ <;> intro hh) | fail)
     simp only [eN, true_and]
     all_goals (simp only [resV_def (X := dX c) Tryz.func91, Tryz.results91]; first | exact J5 | refine J6 ?_)
     exact ⟨_, rfl, HS.out, HR.out⟩
end
end Go.AM
namespace Go.AM
open Go Go.Proofs
variable [Keep]
attribute [local irreducible] W WO WO1 WD WQ WT thenQ blockQ endR isRet retK Cl ClR
open Go.TX (Rm Fa Ha Hs)
def suitO (op : List Int) (q : List Int) (r : Int) : Bool := decide (op.length <= q.length) || fitF (op.getD q.length 0) r
theorem fits_snoc : ∀ {l q : List Int} {r : Int}, fitsP l q = true -> fitF (l.getD q.length 0) r = true \/ l.length <= q.length -> fitsP l (q ++ [r]) = true
 | [], q, r, _, _ => by
  rw [fitsP]
  intro s l a p h
  cases h
 | s :: l, [], r, _, h => by
  rcases h with h | h
  ·rw [List.nil_append, fitsP, Bool.and_eq_true]
   refine ⟨by simpa using h, ?_⟩
   cases l <;> rfl
  ·simp at h
 | s :: l, a :: q, r, hf, h => by
  rw [fitsP, Bool.and_eq_true] at hf
  rw [List.cons_append, fitsP, Bool.and_eq_true]
  refine ⟨hf.1, fits_snoc hf.2 ?_⟩
  rcases h with h | h
  ·left; simpa using h
  ·right; simpa using h
theorem paths_fit {op : List Int} {rl : Nat} : ∀ {d : Nat} {q p : List Int}, fitsP op q = true -> p ∈ pathsL (suitO op) rl d q -> fitsP op p = true
 | 0, q, p, hq, h => by
  rw [pathsL, List.mem_singleton] at h
  rw [h]; exact hq
 | d + 1, q, p, hq, h => by
  rw [pathsL, List.mem_flatMap] at h
  obtain ⟨i, _, h⟩ := h
  split at h
  ·rename_i hs
   refine paths_fit (fits_snoc hq ?_) h
   unfold suitO at hs
   rw [Bool.or_eq_true, decide_eq_true_eq] at hs
   rcases hs with hs | hs
   ·exact .inr hs
   ·exact .inl hs
  ·cases h
theorem paths_fits (op : List Int) (rl n : Nat) : pathsL (suitO op) rl n [] = (allP rl n).filter fun p => fitsP op p := by
 have h1 : (pathsL (suitO op) rl n []).filter (fun p => fitsP op p) = pathsL (suitO op) rl n [] := List.filter_eq_self.2 fun p hp => paths_fit (by cases op <;> rfl) hp
 rw [<- h1, paths_filter (P := fun p => fitsP op p) (fun q l r _ _ hP => ?_), paths_top]
 unfold suitO
 rw [Bool.or_eq_true, decide_eq_true_eq]
 by_cases e : op.length <= q.length
 ·exact .inl e
 ·right
  obtain ⟨s, hs⟩ := get_some (l := op) (k := q.length) (by omega)
  have := fits_at hP (k := q.length) (r := r) (by simp) hs
  simpa [List.getD, hs] using this
def ownS (kp : Nat -> List Int -> Bool) (p : List Int) (O : Nat -> List (List Int)) : (Nat -> List (List Int)) × Bool := (fun i => if kp i p = true then O i ++ [p] else O i, true)
theorem own_fold (kp : Nat -> List Int -> Bool) : ∀ (ps : List (List Int)) (O : Nat -> List (List Int)), foldS (ownS kp) ps O = (fun i => O i ++ ps.filter (kp i), true)
 | [], O => by
  simp only [foldS, List.filter_nil, List.append_nil]
 | p :: ps, O => by
  have e : ownS kp p O = (fun i => if kp i p = true then O i ++ [p] else O i, true) := rfl
  simp only [foldS, e]
  rw [own_fold kp ps, if_pos trivial]
  congr 1
  funext i
  rw [List.filter_cons]
  split <;> simp
theorem kp_same {m : Hs} {i : Nat} {p : List Int} (h1 : p.length <= 1000) (h2 : ∀ x ∈ p, -1 <= x) : (decide (workedL p <= mostAt m i) && decide ((airS m p).2 <= limAt m i)) = kpB m i p := by
 unfold kpB
 rw [worked_busy h1 h2]
 congr 1
 ·rw [Bool.eq_iff_iff]
  simp only [decide_eq_true_eq, Bool.not_eq_true', decide_eq_false_iff_not]
  omega
 ·rw [Bool.eq_iff_iff]
  simp only [decide_eq_true_eq, Bool.not_eq_true', decide_eq_false_iff_not]
  omega
end Go.AM
