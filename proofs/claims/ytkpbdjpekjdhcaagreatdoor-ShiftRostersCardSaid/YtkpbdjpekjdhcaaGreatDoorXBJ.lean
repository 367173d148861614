/-
  A part of the proof: contracts of functions.
-/
import Derived.Test.YtkpbdjpekjdhcaaGreatDoorXBC
import Derived.Test.YtkpbdjpekjdhcaaGreatDoorXAZ
import Derived.Test.YtkpbdjpekjdhcaaGreatDoorXBG
import Derived.Test.YtkpbdjpekjdhcaaGreatDoorXAW
import Derived.Test.YtkpbdjpekjdhcaaGreatDoorXBI
import Derived.Test.YtkpbdjpekjdhcaaGreatDoorXAV
import Derived.Test.YtkpbdjpekjdhcaaGreatDoorXAD
import Derived.Test.YtkpbdjpekjdhcaaGreatDoorXBH
set_option linter.unusedSectionVars false
set_option linter.unusedVariables false
set_option linter.unusedSimpArgs false
set_option maxRecDepth 100000
namespace Go.AM
open Go Go.Proofs
variable [Keep]
attribute [local irreducible] W WO WO1 WD WQ WT thenQ blockQ endR isRet retK Cl ClR
open Go.TX (Rm Fa Ha Hs)
structure HsD (h : Heap) (m : Hs) (ra fa oa ha : AV) : Prop where
 r : SeeV h rmC ra m.rooms
 f : SeeV h faC fa m.fans
 o : SeeV h intC oa m.op
 h : SeeV h haC ha m.hands
theorem HsD.fans {h : Heap} {m : Hs} {ra fa oa ha : AV} (hm : HsA m ra fa oa ha) {F : List Fa} {b : AV} (hb : SeeV h faC b F) : HsD h { m with fans := F } ra b oa ha := ⟨SeeV.of hm.r h, hb, SeeV.of hm.o h, SeeV.of hm.h h⟩
theorem HsD.hands {h : Heap} {m : Hs} {ra fa oa ha : AV} (hm : HsA m ra fa oa ha) {H : List Ha} {b : AV} (hb : SeeV h haC b H) : HsD h { m with hands := H } ra fa oa b := ⟨SeeV.of hm.r h, SeeV.of hm.f h, SeeV.of hm.o h, hb⟩
theorem SeeV.row {α : Type} {c : Cd α} {h : Heap} {id sz : Nat} {l : List α} (hg : h.get id = some (.rw sz (l.map c.enc))) (hn : l.length <= maxL) : SeeV h c (.row id 0 l.length) l := by
 refine ⟨.vslice (l.map c.enc), ?_, slV_mk (.inr rfl) hn⟩
 have hp : AV.purL (l.map c.enc) = true := by
  clear hg hn
  induction l with
  | nil => rfl
  | cons a l ih =>
   simp only [List.map_cons, AV.purL, Bool.and_eq_true]
   exact ⟨enc_pur c [a] _ (by simp), ih⟩
 have h1 : (l.map c.enc).take l.length = l.map c.enc := List.take_of_length_le (by simp)
 simp only [viewV, hg, List.length_map, Nat.zero_add, Nat.le_refl, if_true, List.drop_zero, h1, hp]
def IntsV (h : Heap) (a : AV) (l : List Int) : Prop := slV intC a = some l \/ (Blt h a 1 (intsE l) /\ l.length <= maxL)
theorem IntsV.out {h : Heap} {a : AV} {l : List Int} (v : IntsV h a l) : outV (some a) = some a := by
 rcases v with v | ⟨v, _⟩
 ·exact sl_out v
 ·exact v.out
theorem IntsV.len {h : Heap} {a : AV} {l : List Int} (v : IntsV h a l) : lenS a = some l.length := by
 rcases v with v | ⟨v, _⟩
 ·exact sl_len v
 ·have := v.len; rwa [intsE_len] at this
theorem IntsV.max {h : Heap} {a : AV} {l : List Int} (v : IntsV h a l) : l.length <= maxL := by
 rcases v with v | ⟨_, v⟩
 ·exact sl_max v
 ·exact v
theorem IntsV.parts {h : Heap} {a : AV} {l : List Int} (v : IntsV h a l) : a.cells = [a] /\ isTuple a = false := by
 rcases v with v | ⟨v, _⟩
 ·exact ⟨(slV_is v).1.cells, (slV_is v).1.tup⟩
 ·rcases v with ⟨rfl, _⟩ | ⟨id, rfl, _⟩ <;> exact ⟨rfl, rfl⟩
theorem IntsV.rd {h : Heap} {a : AV} {l : List Int} (v : IntsV h a l) {k : Nat} {x : Int} (hx : l[k]? = some x) : (∀ H, indexAddrV Tryz.prog H 24 a (.int .i64 (k : Int)) = some (.vptr [.int .i64 x])) \/ ∃ id el, h.get id = some (.rw 1 el) /\ el[k]? = some (.int .i64 x) /\ indexAddrV Tryz.prog h 24 a (.int .i64 (k : Int)) = some (.eptr id 1 k 0) := by
 rcases v with v | ⟨v, _⟩
 ·exact .inl fun H => ints_idx v hx H
 ·right
  rcases v with ⟨_, e⟩ | ⟨id, rfl, hg, _, _⟩
  ·have : l = [] := by
    cases l with
    | nil => rfl
    | cons b l => unfold intsE at e; simp at e
   rw [this] at hx; simp at hx
  ·have hk : k < (intsE l).length := by rw [intsE_len]; exact (List.getElem?_eq_some_iff.1 hx).1
   exact ⟨id, intsE l, hg, by unfold intsE; rw [List.getElem?_map, hx]; rfl, row_idx hg hk⟩
section
variable {c : Itr}
set_option maxHeartbeats 2000000 in
theorem C141r (h141 : c 141 = none) {h : Heap} {a : AV} {l : List Int} (v : IntsV h a l) (g : FuncId) (first capt : List AV) (pb : Int -> Bool)
  (hcall : ∀ p : Int, p ∈ l -> Cl (dX c) g ((first ++ [.int .i64 p]) ++ capt) h (.ret (.bool (pb p)) h none)) : Cl (dX c) 141 [a, .func (.func g) first capt] h (.ret (.int .i64 (idxOf pb l)) h none) := by
 refine ClR.cl ?_
 have hlen := v.len
 have hout := v.out
 have hmax := v.max
 have HV := J1 v
 have HCL := J1 hcall
 clear v hcall
 refine ClR.walk (c := _) h141 Tryz.func141 rfl (by kernel_rfl) rfl (fun e => by cases e) ?_
 try simp only [entryEnv, Nat.reduceAdd, List.nil_append, List.cons_append, emptyHp]
 repeat' (first | refine goS ?_ | (refine go2 ?_ ?_ <;> intro hh) | fail)
 refine W.loopH (l.length) [0, 1, 7] [] (fun k e lm => e.get 8 = some (.int .i64 ↑k) /\ (l.take k).all (fun x => !pb x) = true) ?_ ?_
 ·skip
  refine ⟨?_, ?_⟩
  all_goals first | exact Z2 | (simp [go_sem, *]; done) | skip
  all_goals rfl
 intro k e lm hk0 hce hcl hinv
 simp only [keepE, and_true] at hce
 obtain ⟨c0, c1, c7⟩ := hce
 simp only [go_sem, *, Nat.reduceBEq, Nat.reduceEqDiff, reduceIte] at c0 c1 c7
 clear hcl
 obtain ⟨h8, hall⟩ := hinv
 by_cases hlt : k < l.length
 ·have hd0 : decide ((k : Int) < ((l.length : Nat) : Int)) = true := by first | (simpa using hlt; done) | (simp only [decide_eq_true_eq]; omega)
  have hv_0 := wrap_succ hlt hmax
  obtain ⟨p, hpk⟩ := get_some hlt
  have hcl := HCL.out p (List.mem_of_getElem? hpk)
  have hnx : (l.take (k + 1)).all (fun x => !pb x) = !pb p := by rw [take_next hpk, List.all_append, hall]; simp
  have hat : pb p = true -> idxOf pb l = k := idxOf_at hall hpk
  have hrd := HV.out.rd hpk
  have HNX := J1 hnx
  have HAT := J1 hat
  have HLT0 := J1 hlt
  clear hnx hat hall hpk hlt
  rcases hrd with hix | ⟨id, el, hg, hek, hix⟩
  all_goals
   cases hb : pb p with
   | true =>
    rw [hb] at hcl
    have e := HAT.out hb
    rw [e]
    clear e
    repeat' (first | refine goS ?_ | (apply U6; exact Z1; exact Z1; (exact hcl); simp only [pM, pN, rR, rP]) | (refine go2 ?_ ?_ <;> intro hh) | fail)
    all_goals (simp only [resV_def (X := dX c) Tryz.func141, Tryz.results141]; first | exact J5 | refine J6 ?_)
    all_goals rfl
   | false =>
    rw [hb] at hcl
    repeat' (first | refine goS ?_ | (apply U6; exact Z1; exact Z1; (exact hcl); simp only [pM, pN, rR, rP]) | (refine go2 ?_ ?_ <;> intro hh) | fail)
    all_goals refine contH_mk J9 J7 J8 ?_
    all_goals refine ⟨?_, ?_⟩
    all_goals first | exact Z2 | skip
    all_goals (rw [HNX.out, hb]; rfl)
 ·have hd0 : decide ((k : Int) < ((l.length : Nat) : Int)) = false := by first | (simpa using hlt; done) | (simp only [decide_eq_false_iff_not]; omega)
  obtain rfl : k = l.length := by omega
  rw [List.take_length] at hall
  rw [idxOf_none hall]
  clear hall hlt
  repeat' (first | refine goS ?_ | (refine go2 ?_ ?_ <;> intro hh) | fail)
  all_goals (simp only [resV_def (X := dX c) Tryz.func141, Tryz.results141]; first | exact J5 | refine J6 ?_)
  all_goals rfl
theorem C92r (h92 : c 92 = none) (h141 : c 141 = none) {h : Heap} {a : AV} {l : List Int} (v : IntsV h a l) (g : FuncId) (first capt : List AV) (pb : Int -> Bool)
  (hcall : ∀ p : Int, p ∈ l -> Cl (dX c) g ((first ++ [.int .i64 p]) ++ capt) h (.ret (.bool (pb p)) h none)) : Cl (dX c) 92 [a, .func (.func g) first capt] h (.ret (.bool (l.any pb)) h none) := by
 refine ClR.cl ?_
 have k141 := C141r h141 v g first capt pb hcall
 have hout := v.out
 have hpos := idxOf_any pb l
 rw [<- hpos]
 clear v hcall hpos
 refine ClR.walk (c := _) h92 Tryz.func92 rfl (by kernel_rfl) rfl (fun e => by cases e) ?_
 try simp only [entryEnv, Nat.reduceAdd, List.nil_append, List.cons_append, emptyHp]
 repeat' (first | refine goS ?_ | (apply U6; exact Z1; exact Z1; (exact k141); simp only [pM, pN, rR, rP]) | (refine go2 ?_ ?_ <;> intro hh) | fail)
 all_goals (simp only [resV_def (X := dX c) Tryz.func92, Tryz.results92]; first | exact J5 | refine J6 ?_)
 all_goals rfl
end
end Go.AM
namespace Go.AM
open Go Go.Proofs
variable [Keep]
attribute [local irreducible] W WO WO1 WD WQ WT thenQ blockQ endR isRet retK Cl ClR
open Go.TX (Rm Fa Ha Hs)
section
variable {c : Itr}
theorem C94 (h94 : c 94 = none) (h143 : c 143 = some (pureFn sp143)) (x : Int) (h : Heap) : Cl (dX c) 94 [.int .u64 x] h (.ret (.int .i64 (ocF x)) h none) := by
 refine ClR.cl ?_
 have k143 : ∀ h, Cl (dX c) 143 [.int .u64 x] h (.ret (.int .i64 (ocF x)) h none) := fun h => Cl.intr h143 rfl
 generalize ocF x = z at *
 refine ClR.walk (c := _) h94 Tryz.func94 rfl (by kernel_rfl) rfl (fun e => by cases e) ?_
 try simp only [entryEnv, Nat.reduceAdd, List.nil_append, List.cons_append, emptyHp]
 repeat' (first | refine goS ?_ | (apply U6; exact Z1; exact Z1; (exact k143 _); simp only [pM, pN, rR, rP]) | (refine go2 ?_ ?_ <;> intro hh) | fail)
 all_goals (simp only [resV_def (X := dX c) Tryz.func94, Tryz.results94]; first | exact J5 | refine J6 ?_)
 all_goals rfl
theorem C95 (h95 : c 95 = none) (x : Int) (h : Heap) : Cl (dX c) 95 (([] ++ [.int .i64 x]) ++ []) h (.ret (.bool (x != 0)) h none) := by
 refine ClR.cl ?_
 generalize hb : (x != 0) = b
 refine ClR.walk (c := _) h95 Tryz.func95 rfl (by kernel_rfl) rfl (fun e => by cases e) ?_
 try simp only [entryEnv, Nat.reduceAdd, List.nil_append, List.cons_append, emptyHp]
 repeat' (first | refine goS ?_ | (refine go2 ?_ ?_ <;> intro hh) | fail)
 all_goals (simp only [resV_def (X := dX c) Tryz.func95, Tryz.results95]; first | exact J5 | refine J6 ?_)
 all_goals rfl
theorem C88 (h88 : c 88 = none) (h89 : c 89 = some (pureFn sp89)) {ra fa oa ha a : AV} {n : Int} {op p : List Int} {bm : Nat} {h : Heap} (g : h.get bm = some (.var [.int .i64 n, ra, fa, oa, ha])) (ho : slV intC oa = some op) (o1 : outV (some ra) = some ra) (o2 : outV (some fa) = some fa) (o4 : outV (some ha) = some ha) (v : IntsV h a p) (hp : p.length < op.length) (r : Int) (hr : -1 <= r) :
  Cl (dX c) 88 (([] ++ [a, .int .i64 r]) ++ [.ptr bm 0]) h (.ret (.bool (fitF (op.getD p.length 0) r)) h none) := by
 refine ClR.cl ?_
 have oa1 := v.out
 have la := v.len
 have o3 := sl_out ho
 obtain ⟨s, hs⟩ := get_some hp
 have hix := fun H => ints_idx ho hs H
 have hgd : op.getD p.length 0 = s := by simp [List.getD, hs]
 rw [hgd]
 unfold fitF
 clear v ho hs hgd
 by_cases e : r = -1
 ·subst e
  have e1 : ((-1 : Int) == -1) = true := rfl
  rw [e1, Bool.true_or]
  refine ClR.walk (c := _) h88 Tryz.func88 rfl (by kernel_rfl) rfl (fun e => by cases e) ?_
  try simp only [entryEnv, Nat.reduceAdd, List.nil_append, List.cons_append, emptyHp]
  repeat' (first | refine goS ?_ | (apply U6; exact Z1; exact Z1; (exact k89 _); simp only [pM, pN, rR, rP]) | (refine go2 ?_ ?_ <;> intro hh) | fail)
  all_goals (simp only [resV_def (X := dX c) Tryz.func88, Tryz.results88]; first | exact J5 | refine J6 ?_)
  all_goals rfl
 ·have e1 : (r == -1) = false := by simpa using e
  rw [e1, Bool.false_or]
  have k89 := fun h => K89 (X := dX c) h89 s r (by omega) h
  generalize hasB s r = b at *
  clear e hr hp
  refine ClR.walk (c := _) h88 Tryz.func88 rfl (by kernel_rfl) rfl (fun e => by cases e) ?_
  try simp only [entryEnv, Nat.reduceAdd, List.nil_append, List.cons_append, emptyHp]
  repeat' (first | refine goS ?_ | (apply U6; exact Z1; exact Z1; (exact k89 _); simp only [pM, pN, rR, rP]) | (refine go2 ?_ ?_ <;> intro hh) | fail)
  all_goals (simp only [resV_def (X := dX c) Tryz.func88, Tryz.results88]; first | exact J5 | refine J6 ?_)
  all_goals rfl
theorem C93 (h93 : c 93 = none) (h94 : c 94 = none) (h143 : c 143 = some (pureFn sp143)) {ra fa oa ha nv : AV} {n : Int} {bh b8 H L : Nat} {h : Heap} (g1 : h.get bh = some (.var [.int .i64 n, ra, fa, oa, ha])) (g2 : h.get b8 = some (.var [nv])) (lh : lenS ha = some H) (o4 : outV (some ha) = some ha) (ln : lenS nv = some L) (on : outV (some nv) = some nv) (hL : L <= H) (hH : H <= 100) (s : Int) (hs : 0 <= s /\ s < 8) :
  Cl (dX c) 93 (([] ++ [.int .i64 s]) ++ [.ptr bh 0, .ptr b8 0]) h (.ret (.bool (decide (ocF s > ((H - L : Nat) : Int)))) h none) := by
 refine ClR.cl ?_
 have k94 := fun h => C94 (c := c) h94 h143 s h
 have hw : IntKind.i64.wrap ((H : Int) - (L : Int)) = ((H - L : Nat) : Int) := by
  have := w64_small (n := (H : Int) - (L : Int)) (by omega) (by omega)
  unfold w64 at this
  rw [this]
  omega
 have hu : IntKind.u64.wrap s = s := by
  unfold IntKind.wrap
  have e : (2 : Int) ^ IntKind.u64.bits = 18446744073709551616 := rfl
  have e2 : IntKind.u64.signed = false := rfl
  simp only [e, e2]
  simp
  omega
 clear hs hL hH
 generalize ocF s = z at *
 refine ClR.walk (c := _) h93 Tryz.func93 rfl (by kernel_rfl) rfl (fun e => by cases e) ?_
 try simp only [entryEnv, Nat.reduceAdd, List.nil_append, List.cons_append, emptyHp]
 repeat' (first | (apply W.drawQ (id := 1) (l1 := [0, 1, 2, 3, 4, 5, 6, 7, 8, 9, 10]) (l2 := []); kernel_rfl; kernel_rfl; kernel_rfl; exact Z4) | refine go1 ?_ | (apply U6; exact Z1; exact Z1; (exact k94 _); simp only [pM, pN, rR, rP]) | (refine go2 ?_ ?_ <;> intro hh) | fail)
 all_goals (simp only [resV_def (X := dX c) Tryz.func93, Tryz.results93]; first | exact J5 | refine J6 ?_)
 all_goals rfl
end
end Go.AM
namespace Go.AM
open Go Go.Proofs
variable [Keep]
attribute [local irreducible] W WO WO1 WD WQ WT thenQ blockQ endR isRet retK Cl ClR
theorem eq36n : binV Tryz.prog .eql 36 true .nilslice .nilslice = some (.bool true) := by
 simp [binV, eqOp, eqV, isSliceT, whenB, Tryz.underlying36]
theorem eq36r (id n : Nat) : binV Tryz.prog .eql 36 true (.row id 0 n) .nilslice = some (.bool false) := by
 simp [binV, eqOp, eqV, isSliceT, whenB, Tryz.underlying36]
attribute [local irreducible] clR
theorem C98 (c : Itr) (hc : c 98 = none) (a : AV) (l : List AV) (h : Heap) (b : Blt h a 1 l) (hsz : ∀ v ∈ l, v.cells.length = 1) (hm : l.length <= 1000) : ClR (dX c) 98 [a] h (clR h l) := by
 have hlen : l.length <= most := by unfold most; omega
 have HSZ := J1 hsz
 clear hsz
 rcases b with ⟨rfl, hnil⟩ | ⟨id, rfl, hg, hid, hne⟩
 ·have HN := J1 hnil
  have hq := eq36n
  clear hlen hnil
  refine ClR.walk (c := _) hc Tryz.func98 rfl (by kernel_rfl) rfl clR_fail ?_
  try simp only [entryEnv, Nat.reduceAdd, List.nil_append, List.cons_append, emptyHp]
  repeat' (first | refine goS ?_ | (refine go2 ?_ ?_ <;> intro hh) | fail)
  all_goals (simp only [resV_def (X := dX c) Tryz.func98, Tryz.results98]; first | exact J5 | refine J6 ?_)
  rw [HN.out]
  exact clR_ret BltN.nil (HExt.refl h)
 ·have hel : h.elems (.row id 0 l.length) = some l := by simp [Heap.elems, hg]
  have hq := eq36r id l.length
  have HG := J1 hg
  have HI := J1 hid
  clear hg hid
  refine ClR.walk (c := _) hc Tryz.func98 rfl (by kernel_rfl) rfl clR_fail ?_
  try simp only [entryEnv, Nat.reduceAdd, List.nil_append, List.cons_append, emptyHp]
  repeat' (first | (apply WO1.append0 (t := 36) (u := 36) (e := 24) (e' := 24) (sz := 1) (tl := []) (new := l) (hx := .inl rfl); exact Z1; exact rfl; exact Z2; exact Z2; exact Z2; (focus (exact ty_row36)); (focus (first | exact Z2 | exact hel)); (focus (exact HSZ.out)); (focus (exact hlen)); (focus (exact hne)); simp only [pM, pN]) | refine go1 ?_ | (refine go2 ?_ ?_ <;> intro hh) | fail)
  all_goals (simp only [resV_def (X := dX c) Tryz.func98, Tryz.results98]; first | exact J5 | refine J6 ?_)
  refine clR_ret (.inr ⟨h.next, rfl, ?_, Nat.le_refl _, Nat.lt_succ_self _, hne⟩) (hext_new' _ _)
  rw [Heap.get_new, if_pos rfl]
end Go.AM
namespace Go.AM
open Go Go.Proofs
variable [Keep]
attribute [local irreducible] W WO WO1 WD WQ WT thenQ blockQ endR isRet retK Cl ClR
open Go.TX (Rm Fa Ha Hs)
theorem set_same {α : Type} {l : List α} {k : Nat} {x : α} (h : l[k]? = some x) : l.set k x = l := by
 obtain ⟨h1, rfl⟩ := List.getElem?_eq_some_iff.1 h
 exact List.set_getElem_self h1
theorem row_of {b id n sz : Nat} {h : Heap} {l : List AV} (q : BltN b h (.row id 0 n) sz l) : h.get id = some (.rw sz l) /\ id < h.next := by
 rcases q with ⟨e, _⟩ | ⟨i, e, h2, _, h3, _⟩
 ·cases e
 ·cases e; exact ⟨h2, h3⟩
def takB (p l : List Int) : Bool := fitsP l p && (l.all fun s => inB s 0 7) && (p.all fun r => inB r (-1) 2) && Nat.beq l.length p.length && !(Nat.beq p.length 0)
def sp147 : List AV -> Option AV
 | [pa, la] => match slV intC pa, slV intC la with
  | some p, some l => if takB p l = true then some (slN (intsE (takeP l p))) else none
  | _, _ => none
 | _ => none
theorem p147 : ∀ args v, sp147 args = some v -> v.pur = true := by
 intro args v h
 unfold sp147 at h
 split at h
 ·split at h
  ·split at h
   ·cases h; exact intsE_pur' _
   ·cases h
  ·cases h
 ·cases h
noncomputable def cSB : Itr
 | 85 => some (pureFn sp85)
 | _ => none
theorem cSB_sound : Sound (dX cSB) := dX_sound (fun f g h => by
 unfold cSB at h
 split at h
 ·cases h; exact F85
 ·cases h)
set_option maxHeartbeats 8000000 in
theorem R147 (pa la : AV) (p l : List Int) (hp : slV intC pa = some p) (hl : slV intC la = some l) (hf : fitsP l p = true) (hlen : l.length = p.length) (hn1 : p.length ≠ 0) (hpl : PLt 3 p) (hs : SetsOk l) : ClR (dX cSB) 147 [pa, la] emptyHp (isRet (slN (intsE (takeP l p)))) := by
 have lp := sl_len hp
 have op := sl_out hp
 have mp := sl_max hp
 have hne : intsE l ≠ [] := fun e => by
  have := congrArg List.length e
  rw [intsE_len, List.length_nil] at this
  omega
 have hlv : la = .vslice (intsE l) := by
  rcases (slV_is hl).1 with ⟨_, e⟩ | e
  ·exact absurd e hne
  ·exact e
 have HLL := J1 (show 0 + l.length <= most by unfold maxL at mp; unfold most; omega)
 have HP := J1 hp
 have HPL := J1 hpl
 have HS := J1 hs
 have HF := J1 hf
 have HLEN := J1 hlen
 have HN1 := J1 hn1
 clear hp hl hf hpl hs hn1
 subst hlv
 obtain ⟨nn, hnn⟩ : ∃ nn, nn = l.length := ⟨_, rfl⟩
 have HNN := J1 hnn
 clear hlen
 refine ClR.walk (c := _) rfl Tryz.func147 rfl (by kernel_rfl) rfl isRet_fail ?_
 try simp only [entryEnv, Nat.reduceAdd, List.nil_append, List.cons_append, emptyHp]
 repeat' (first | (apply WO1.appendX (t := 24) (u := 24) (e := 3) (e' := 3) (sz := 1) (tl := []) (l := []) (new := intsE l) (b := 0) (h0 := ⟨0, .nil⟩) (hb := BltN.nil) (hx := ⟨Nat.zero_le _, fun id h => absurd h (Nat.not_lt_zero id)⟩); exact Z1; exact rfl; exact Z2; exact Z2; exact Z2; (focus (exact ty_row24)); (focus (first | exact Z2 | exact Z1 | exact rfl)); (focus (intro v hv; obtain ⟨p, _, rfl⟩ := List.mem_map.1 hv; rfl)); (focus (simp only [intsE_len, List.length_nil]; exact HLL.out)); (focus (exact hne)); (intro v1 hp1 hB1 ho1 hK1 hE1 hX1; simp only [List.nil_append, intsE_len] at hE1; simp only [List.nil_append] at hB1; subst hE1; obtain ⟨g1, hid1⟩ := row_of hB1; have HID1 := J1 hid1; have HG1 := J1 g1; clear hK1 hB1 hX1 hid1 g1; obtain ⟨qn1, qm1⟩ := hp1; simp only [pM, pN])) | refine go1 ?_ | (refine go2 ?_ ?_ <;> intro hh) | fail)
 rw [<- hnn]
 clear hnn
 refine W.loopV (p.length) [0, 5] [] (fun k e lm hp => e.get 6 = some (.int .i64 ↑k) /\ hp.get 0 = some (.rw 1 (intsE (takeP l (p.take k)))) /\ 0 < hp.next) ?_ ?_
 ·skip
  refine ⟨?_, ?_, ?_⟩
  all_goals first | exact Z2 | (simp [go_sem, *]; done) | skip
  ·have e : takeP l (p.take 0) = l := by rw [List.take_zero]; cases l <;> rfl
   rw [e]
   exact HG1.out
  ·exact HID1.out
 intro k e lm hp hk0 hce hcl hinv
 simp only [keepE, and_true] at hce
 obtain ⟨c0, c5⟩ := hce
 simp only [go_sem, *, Nat.reduceBEq, Nat.reduceEqDiff, reduceIte] at c0 c5
 clear hcl
 obtain ⟨h6, hA1, hA2⟩ := hinv
 by_cases hlt : k < p.length
 ·have hd0 : decide ((k : Int) < ((p.length : Nat) : Int)) = true := by first | (simpa using hlt; done) | (simp only [decide_eq_true_eq]; omega)
  have hv_0 := wrap_succ hlt mp
  obtain ⟨r, hr⟩ := get_some hlt
  obtain ⟨s, hs⟩ := get_some (l := l) (k := k) (by have := HLEN.out; omega)
  have hixp := fun H => ints_idx HP.out hr H
  have hrr := HPL.out r (List.mem_of_getElem? hr)
  have hss := HS.out s (List.mem_of_getElem? hs)
  obtain ⟨hnx, hgk⟩ := take_step hr hs
  have hfk := fits_at HF.out hr hs
  have hix := row_idx (n := nn) hA1 (j := k) (by have := HNN.out; have := HLEN.out; omega)
  have hgo : (intsE (takeP l (p.take k)))[k]? = some (.int .i64 s) := by unfold intsE; rw [List.getElem?_map, hgk]; rfl
  have hset := ints_set (takeP l (p.take k)) k
  have HNX := J1 hnx
  have HSET := J1 hset
  have HLT0 := J1 hlt
  have HA2 := J1 hA2
  clear hr hs hnx hgk hset hlt hA2
  by_cases hneg : r < 0
  ·have dr : decide (r >= 0) = false := by simp only [decide_eq_false_iff_not]; omega
   have hr1 : r = -1 := by omega
   have ht : tkF s r = s := by rw [hr1]; rfl
   have HT := J1 ht
   have HGO := J1 hgo
   have HA1 := J1 hA1
   clear ht hneg hrr hss hfk hr1 hgo hA1
   repeat' (first | (apply W.drawQ (id := 6) (l1 := [0, 1, 2, 3, 4, 5, 6, 7, 8, 9, 10, 11, 12]) (l2 := [13]); kernel_rfl; kernel_rfl; kernel_rfl; exact Z4) | refine go1 ?_ | (refine go2 ?_ ?_ <;> intro hh) | fail)
   all_goals refine contV_mk J9 J7 J8 ?_
   all_goals refine ⟨?_, ?_, HA2.out⟩
   all_goals first | exact Z2 | skip
   rw [HNX.out, HT.out, <- HSET.out, set_same HGO.out]
   exact HA1.out
  ·obtain ⟨rn, rfl⟩ : ∃ rn : Nat, r = rn := ⟨r.toNat, by omega⟩
   have dr : decide ((rn : Int) >= 0) = true := by simp
   have hnr : ((rn : Int) == -1) = false := by simp only [beq_eq_false_iff_ne, ne_eq]; omega
   have hhb : hasB s rn = true := by unfold fitF at hfk; rw [hnr, Bool.false_or] at hfk; exact hfk
   have hk := tk_ok hss (by omega) hhb
   have ht : tkF s rn = s - 2 ^ rn := by unfold tkF; rw [hnr, if_neg (by simp), hk.sub]
   have hv := hk.val
   rw [hk.sub] at hv
   have hw : IntKind.i64.wrap (s - 2 ^ rn) = s - 2 ^ rn := w64_small (by omega) (by omega)
   have k85 := fun h => K85 (X := dX cSB) rfl rn (by omega) h
   have HT := J1 ht
   clear ht hneg hrr hss hfk hhb hk hv hnr
   generalize (2 : Int) ^ rn = pw at *
   obtain ⟨hn1, hm1⟩ := hp
   simp only [hp_get] at hA1
   repeat' (first | (apply W.drawQ (id := 6) (l1 := [0, 1, 2, 3, 4, 5, 6, 7, 8, 9, 10, 11, 12]) (l2 := [13]); kernel_rfl; kernel_rfl; kernel_rfl; exact Z4) | (apply U5; exact rfl; (focus (intro cl rd; simp only [go_sem, *, Nat.reduceLT, Int.reduceEq, Int.reduceBEq, Int.reduceLE, Int.reduceLT, Nat.reduceAdd, Nat.reduceBEq, Nat.reduceEqDiff, reduceIte, Nat.reduceLeDiff, Nat.reduceMul, Nat.reduceSub, reduceCtorEq, efV, Fr.storeE, AV.cells, isTuple, write_eptr, splice, asElem, isAggV]; with_reducible rfl)); simp only [pM, pN]) | refine go1 ?_ | (apply U6; exact Z1; exact Z1; (exact k85 _); simp only [pM, pN, rR, rP]) | (refine go2 ?_ ?_ <;> intro hh) | fail)
   all_goals refine contV_mk J9 J7 J8 ?_
   all_goals refine ⟨?_, ?_, HA2.out⟩
   all_goals first | exact Z2 | skip
   rw [HNX.out, HT.out, <- HSET.out]
   simp only [hp_get, get_set_same]
 ·have hd0 : decide ((k : Int) < ((p.length : Nat) : Int)) = false := by first | (simpa using hlt; done) | (simp only [decide_eq_false_iff_not]; omega)
  obtain rfl : k = p.length := by omega
  rw [List.take_length] at hA1
  have hb : BltN 0 hp (.row 0 0 nn) 1 (intsE (takeP l p)) := by
   refine .inr ⟨0, by rw [intsE_len, takeP_len, <- HNN.out], hA1, Nat.zero_le _, hA2, fun e => ?_⟩
   have := congrArg List.length e
   rw [intsE_len, takeP_len, List.length_nil] at this
   have := HLEN.out
   have := HN1.out
   omega
  obtain ⟨z1, y1, y2, y3, e1, p1⟩ := hb.freeze
  clear hb p1 e1 hA1 hA2 hlt
  repeat' (first | refine goS ?_ | (refine go2 ?_ ?_ <;> intro hh) | fail)
  all_goals (simp only [resV_def (X := dX cSB) Tryz.func147, Tryz.results147]; first | exact J5 | refine J6 ?_)
  all_goals rfl
theorem F147 : IntrFn Tryz.prog 147 (pureFn sp147) := by
 refine pure_fn (X := dX cSB) cSB_sound p147 ?_
 intro args v h
 unfold sp147 at h
 split at h
 ·rename_i pa la
  split at h
  ·rename_i p l hp hl
   split at h
   ·rename_i hb
    have h := Option.some.inj h
    subst h
    unfold takB at hb
    simp only [Bool.and_eq_true, List.all_eq_true, inB_iff, Bool.not_eq_true'] at hb
    obtain ⟨⟨⟨⟨h1, h2⟩, h3⟩, h4⟩, h5⟩ := hb
    exact R147 pa la p l hp hl h1 (Nat.eq_of_beq_eq_true h4) (fun e => by rw [e] at h5; cases h5) (fun x hx => by have := h3 x hx; omega) (fun x hx => by have := h2 x hx; omega)
   ·cases h
  ·cases h
 ·cases h
theorem K147 {X : Ctx} (hX : X.intr 147 = some (pureFn sp147)) {pa la : AV} {p l : List Int} (hp : slV intC pa = some p) (hl : slV intC la = some l) (hf : fitsP l p = true) (hlen : l.length = p.length) (hn1 : p.length ≠ 0) (hpl : PLt 3 p) (hs : SetsOk l) (h : Heap) : Cl X 147 [pa, la] h (.ret (slN (intsE (takeP l p))) h none) := by
 have hb : takB p l = true := by
  unfold takB
  simp only [Bool.and_eq_true, List.all_eq_true, inB_iff, Bool.not_eq_true']
  refine ⟨⟨⟨⟨hf, fun s hs' => by have := hs s hs'; omega⟩, fun r hr => by have := hpl r hr; omega⟩, by rw [hlen]; exact Nat.beq_refl _⟩, ?_⟩
  cases hq : Nat.beq p.length 0 with
  | false => rfl
  | true => exact absurd (Nat.eq_of_beq_eq_true hq) hn1
 exact Cl.intr hX (by simp only [pureFn, AV.purL, sl_pur hp, sl_pur hl, Bool.and_self, if_true, sp147, hp, hl, hb])
end Go.AM
namespace Go.AM
open Go
def Code.blk (n : Nat) : Code -> Option Code
 | .block i b => bif Nat.beq i n then some b else Code.blk n b
 | .seq a b => match Code.blk n a with
  | some c => some c
  | none => Code.blk n b
 | .cond _ a b => match Code.blk n a with
  | some c => some c
  | none => Code.blk n b
 | .loop b => Code.blk n b
 | .scope b => Code.blk n b
 | .rangeFunc _ _ _ b => Code.blk n b
 | _ => none
def loopIn (fn : Func) (n : Nat) : Code := match fn.body with
 | some c => (match Code.blk n c with
  | some (.loop b) => b
  | _ => .skip)
 | none => .skip
def Code.from : Nat -> Code -> Code
 | 0, c => c
 | n + 1, .seq _ b => Code.from n b
 | _ + 1, _ => .skip
def codeFrom (fn : Func) (n : Nat) : Code := match fn.body with
 | some c => Code.from n c
 | none => .skip
def blkFrom (fn : Func) (b n : Nat) : Code := match fn.body with
 | some c => (match Code.blk b c with
  | some d => Code.from n d
  | none => .skip)
 | none => .skip
end Go.AM
namespace Go.AM
open Go Go.Proofs
variable [Keep]
attribute [local irreducible] W WO WO1 WD WQ WT thenQ blockQ endR isRet retK Cl ClR
open Go.TX (Rm Fa Ha Hs)
theorem IntsV.same {h h' : Heap} {a : AV} {l : List Int} {tid : Nat} (v : IntsV h a l) (hn : h'.next = h.next) (hg : ∀ id, id ≠ tid -> h'.get id = h.get id) (ht : ∀ off n, a ≠ .row tid off n) : IntsV h' a l := by
 rcases v with v | ⟨v, m⟩
 ·exact .inl v
 ·refine .inr ⟨?_, m⟩
  rcases v with v | ⟨id, rfl, h1, h2, h3⟩
  ·exact .inl v
  ·exact .inr ⟨id, rfl, (hg id fun e => ht 0 _ (by rw [e])).trans h1, by rw [hn]; exact h2, h3⟩
theorem andN_op (a b : Int) : intOp .andNot .i64 a b = some (.int .i64 (andN a b)) := rfl
attribute [local irreducible] hasB takeP fitsP andN bitI tkF fitF
section
variable {c : Itr}
set_option maxHeartbeats 8000000 in
theorem L91_2 (h89 : c 89 = some (pureFn sp89)) (Q : Out -> Prop) (e : Mp AV) (lm : Mp (Nat × List AV)) (hp0 : Heap) (pa lv : AV) (p l : List Int) (tid : Nat) (vp : IntsV hp0 pa p) (vl : IntsV hp0 lv l) (hlen : l.length = p.length) (hpl : PLt 3 p) (hs : SetsOk l)
  (hgt : hp0.get tid = some (.rw 1 (intsE l))) (hti : tid < hp0.next) (hpt : ∀ off n, pa ≠ .row tid off n) (hlt' : ∀ off n, lv ≠ .row tid off n)
  (z2 z7 z8 z14 z40 z41 z42 : AV) (z8b : Option (Nat × List AV)) (d8 : lm.get 8 = z8b) (c1 : e.get 1 = some lv) (c2 : e.get 2 = some z2) (c7 : e.get 7 = some z7) (c8 : e.get 8 = some z8) (c12 : e.get 12 = some pa) (c13 : e.get 13 = some (.row tid 0 p.length)) (c14 : e.get 14 = some z14) (c40 : e.get 40 = some z40) (c41 : e.get 41 = some z41) (c42 : e.get 42 = some z42)
  (hno : fitsP l p = false -> ∀ e' lm' hp', keepE [1, 2, 7, 8, 40, 41, 42] e e' -> hp'.next = hp0.next -> (∀ id, id ≠ tid -> hp'.get id = hp0.get id) -> Q (.exit 1 (Fr.mk 91 false e' lm' hp' [] none)))
  (hyes : fitsP l p = true -> ∀ e' lm' hp', keepE [1, 2, 7, 8, 12, 13, 14, 40, 41, 42] e e' -> hp'.next = hp0.next -> (∀ id, id ≠ tid -> hp'.get id = hp0.get id) -> hp'.get tid = some (.rw 1 (intsE (takeP l p))) -> W (dX c) (blkFrom Tryz.f91 1 4) (Fr.mk 91 false e' lm' hp' [] none) Q) :
  W (dX c) (blkFrom Tryz.f91 1 3) (Fr.mk 91 false e lm hp0 [] none) Q := by
 have lp := vp.len
 have op := vp.out
 have ol := vl.out
 have mp := vp.max
 have HVP := J1 vp
 have HVL := J1 vl
 have HS := J1 hs
 have HPL := J1 hpl
 have HLEN := J1 hlen
 have HPT := J1 hpt
 have HLTT := J1 hlt'
 have HNO := J1 hno
 have HYES := J1 hyes
 have HGT := J1 hgt
 have HTI := J1 hti
 clear vp vl hs hpl hlen hpt hlt' hno hyes hgt hti
 repeat' (first | refine goS ?_ | (refine go2 ?_ ?_ <;> intro hh) | fail)
 refine W.loopV (p.length) [1, 2, 7, 8, 12, 13, 14, 40, 41, 42, 54, 55] [8] (fun k e lm hp => e.get 56 = some (.int .i64 ↑k) /\ fitsP l p = fitsP (l.drop k) (p.drop k) /\ hp.next = hp0.next /\ (∀ id, id ≠ tid -> hp.get id = hp0.get id) /\ hp.get tid = some (.rw 1 (intsE (takeP l (p.take k))))) ?_ ?_
 ·skip
  refine ⟨?_, ?_, rfl, fun _ _ => rfl, ?_⟩
  all_goals first | exact Z2 | (simp [go_sem, *]; done) | skip
  ·have e : takeP l (p.take 0) = l := by rw [List.take_zero]; unfold takeP; cases l <;> rfl
   rw [e]
   exact HGT.out
 intro k e lm hp hk0 hce hcl hinv
 simp only [keepE, and_true] at hce
 obtain ⟨c1, c2, c7, c8, c12, c13, c14, c40, c41, c42, c54, c55⟩ := hce
 simp only [go_sem, *, Nat.reduceBEq, Nat.reduceEqDiff, reduceIte] at c1 c2 c7 c8 c12 c13 c14 c40 c41 c42 c54 c55
 simp only [keepL, and_true] at hcl
 have d8 := hcl
 clear hcl
 simp only [go_sem, *, Nat.reduceBEq, Nat.reduceEqDiff, reduceIte] at d8
 obtain ⟨h56, hq, hn, hg, ht⟩ := hinv
 by_cases hlt : k < p.length
 ·have hd0 : decide ((k : Int) < ((p.length : Nat) : Int)) = true := by first | (simpa using hlt; done) | (simp only [decide_eq_true_eq]; omega)
  have hv_0 := wrap_succ hlt mp
  obtain ⟨r, hr⟩ := get_some hlt
  obtain ⟨s, hs⟩ := get_some (l := l) (k := k) (by have := HLEN.out; omega)
  have hrr := HPL.out r (List.mem_of_getElem? hr)
  have hss := HS.out s (List.mem_of_getElem? hs)
  have vp := HVP.out.same hn hg HPT.out
  have vl := HVL.out.same hn hg HLTT.out
  have rdp := vp.rd hr
  have rdl := vl.rd hs
  obtain ⟨hnx, hgk⟩ := take_step hr hs
  rw [fits_drop hr hs] at hq
  have hix := row_idx (n := p.length) ht hlt
  have hgo : (intsE (takeP l (p.take k)))[k]? = some (.int .i64 s) := by unfold intsE; rw [List.getElem?_map, hgk]; rfl
  have hset := ints_set (takeP l (p.take k)) k
  have HNX := J1 hnx
  have HSET := J1 hset
  have HLT0 := J1 hlt
  have HQ := J1 hq
  have HN := J1 hn
  have HG := J1 hg
  have HGO := J1 hgo
  have HT := J1 ht
  clear hr hs hnx hgk hset hlt hq hn hg vp vl
  by_cases hneg : r = -1
  ·subst hneg
   have e1 : ((-1 : Int) == -1) = true := rfl
   have hf : fitF s (-1) = true := by unfold fitF; rfl
   have htk : tkF s (-1) = s := by unfold tkF; rfl
   have HF := J1 hf
   have HTK := J1 htk
   clear hf htk hrr hss rdl hix hgo ht
   rcases rdp with hip | ⟨id, el, hgp, hek, hip⟩
   all_goals
    repeat' (first | (apply W.drawQ (id := 16) (l1 := [0, 1, 2, 3, 4, 5, 6, 7]) (l2 := [8]); kernel_rfl; kernel_rfl; kernel_rfl; exact Z4) | refine go1 ?_ | (refine go2 ?_ ?_ <;> intro hh) | fail)
    all_goals refine contV_mk J9 J7 J8 ?_
    all_goals refine ⟨?_, ?_, HN.out, HG.out, ?_⟩
    all_goals first | exact Z2 | skip
    ·rw [HQ.out, HF.out, Bool.true_and]
    ·rw [HNX.out, HTK.out, <- HSET.out, set_same HGO.out]
     exact HT.out
  ·have e1 : (r == -1) = false := by simpa using hneg
   have hf : fitF s r = hasB s r := by unfold fitF; rw [e1, Bool.false_or]
   have htk : tkF s r = andN s (bitI r) := by unfold tkF; rw [e1, if_neg (by simp)]
   have k89 := fun h => K89 (X := dX c) h89 s r (by omega) h
   have hsh := intOp_shlI (r := r) (by omega)
   have han := andN_op s (bitI r)
   have HF := J1 hf
   have HTK := J1 htk
   clear hf htk hrr hss hneg
   cases hb : hasB s r with
   | false =>
    rw [hb] at k89
    have hno := HNO.out (by rw [HQ.out, HF.out, hb, Bool.false_and])
    have HNO2 := J1 hno
    clear hno
    rcases rdp with hip | ⟨id, el, hgp, hek, hip⟩
    all_goals
     rcases rdl with hil | ⟨id2, el2, hgl, hel, hil⟩
     all_goals
      repeat' (first | (apply W.drawQ (id := 16) (l1 := [0, 1, 2, 3, 4, 5, 6, 7]) (l2 := [8]); kernel_rfl; kernel_rfl; kernel_rfl; exact Z4) | refine go1 ?_ | (apply U6; exact Z1; exact Z1; (exact k89 _); simp only [pM, pN, rR, rP]) | (refine go2 ?_ ?_ <;> intro hh) | fail)
      all_goals refine HNO2.out _ _ _ ?_ HN.out HG.out
      all_goals exact J7
   | true =>
    rw [hb] at k89
    rcases rdp with hip | ⟨id, el, hgp, hek, hip⟩
    all_goals
     rcases rdl with hil | ⟨id2, el2, hgl, hel, hil⟩
     all_goals
      obtain ⟨hn1, hm1⟩ := hp
      simp only [hp_get] at ht
      try simp only [hp_get] at hgp
      try simp only [hp_get] at hgl
      generalize andN s (bitI r) = av at *
      generalize bitI r = bv at *
      repeat' (first | (apply W.drawQ (id := 16) (l1 := [0, 1, 2, 3, 4, 5, 6, 7]) (l2 := [8]); kernel_rfl; kernel_rfl; kernel_rfl; exact Z4) | (apply U5; exact rfl; (focus (intro cl rd; simp only [go_sem, *, Nat.reduceLT, Int.reduceEq, Int.reduceBEq, Int.reduceLE, Int.reduceLT, Nat.reduceAdd, Nat.reduceBEq, Nat.reduceEqDiff, reduceIte, Nat.reduceLeDiff, Nat.reduceMul, Nat.reduceSub, reduceCtorEq, efV, Fr.storeE, AV.cells, isTuple, write_eptr, splice, asElem, isAggV]; with_reducible rfl)); simp only [pM, pN]) | refine go1 ?_ | (apply U6; exact Z1; exact Z1; (exact k89 _); simp only [pM, pN, rR, rP]) | (refine go2 ?_ ?_ <;> intro hh) | fail)
      all_goals refine contV_mk J9 J7 J8 ?_
      all_goals refine ⟨?_, ?_, ?_, ?_, ?_⟩
      all_goals first | exact Z2 | skip
      ·rw [HQ.out, HF.out, hb, Bool.true_and]
      ·exact HN.out
      ·intro id0 hid0
       have := HG.out id0 hid0
       simp only [hp_get] at this ⊢
       rw [Mp.get_set, if_neg (fun e => hid0 e.symm)]
       exact this
      ·rw [HNX.out, HTK.out, <- HSET.out]
       simp only [hp_get, get_set_same]
 ·have hd0 : decide ((k : Int) < ((p.length : Nat) : Int)) = false := by first | (simpa using hlt; done) | (simp only [decide_eq_false_iff_not]; omega)
  obtain rfl : k = p.length := by omega
  have hf : fitsP l p = true := by
   rw [hq, List.drop_eq_nil_of_le (Nat.le_refl _)]
   unfold fitsP
   cases l.drop p.length <;> rfl
  rw [List.take_length] at ht
  have hyes := HYES.out hf
  have HN := J1 hn
  have HG := J1 hg
  have HT := J1 ht
  clear hq hn hg ht hf hlt
  repeat' (first | (refine hyes _ _ _ ?_ ?_ ?_ ?_) | refine go1 ?_ | (refine go2 ?_ ?_ <;> intro hh) | fail)
  ·exact J7
  ·exact HN.out
  ·exact HG.out
  ·exact HT.out
end
end Go.AM
namespace Go.AM
open Go Go.Proofs
variable [Keep]
attribute [local irreducible] W WO WO1 WD WQ WT thenQ blockQ endR isRet retK Cl ClR
open Go.TX (Rm Fa Ha Hs)
def RowsV (h : Heap) (v : AV) (g : List (List Int)) : Prop := ∃ els : List AV, Blt h v 1 els /\ els.length = g.length /\ ∀ (k : Nat) (p : List Int), g[k]? = some p -> ∃ b, els[k]? = some b /\ Blt h b 1 (intsE p)
structure RelS (bf bo : Nat) (h h' : Heap) : Prop where
 next : h.next <= h'.next
 same : ∀ id, id < h.next -> id ≠ bf -> id ≠ bo -> h'.get id = h.get id
theorem RelS.refl (bf bo : Nat) (h : Heap) : RelS bf bo h h := ⟨Nat.le_refl _, fun _ _ _ _ => rfl⟩
theorem RelS.trans {bf bo : Nat} {a b d : Heap} (x : RelS bf bo a b) (y : RelS bf bo b d) : RelS bf bo a d := ⟨Nat.le_trans x.next y.next, fun id h1 h2 h3 => (y.same id (Nat.lt_of_lt_of_le h1 x.next) h2 h3).trans (x.same id h1 h2 h3)⟩
theorem RelS.ext {bf bo : Nat} {h h' : Heap} (x : HExt h h') : RelS bf bo h h' := ⟨x.1, fun id hid _ _ => x.2 id hid⟩
def CellS (bf bo : Nat) (h : Heap) : Prop := (∀ z r, h.get bf ≠ some (.rw z r)) /\ ∀ z r, h.get bo ≠ some (.rw z r)
theorem Blt.relS {bf bo : Nat} {h h' : Heap} {v : AV} {sz : Nat} {l : List AV} (b : Blt h v sz l) (c : CellS bf bo h) (x : RelS bf bo h h') : Blt h' v sz l := by
 rcases b with q | ⟨id, rfl, h1, h2, h3⟩
 ·exact .inl q
 ·exact .inr ⟨id, rfl, (x.same id h2 (fun e => c.1 _ _ (e ▸ h1)) (fun e => c.2 _ _ (e ▸ h1))).trans h1, Nat.lt_of_lt_of_le h2 x.next, h3⟩
theorem RowsV.relS {bf bo : Nat} {h h' : Heap} {v : AV} {g : List (List Int)} (r : RowsV h v g) (c : CellS bf bo h) (x : RelS bf bo h h') : RowsV h' v g := by
 obtain ⟨els, h1, h2, h3⟩ := r
 refine ⟨els, h1.relS c x, h2, fun k p hk => ?_⟩
 obtain ⟨b, b1, b2⟩ := h3 k p hk
 exact ⟨b, b1, b2.relS c x⟩
theorem IntsV.relS {bf bo : Nat} {h h' : Heap} {a : AV} {l : List Int} (v : IntsV h a l) (c : CellS bf bo h) (x : RelS bf bo h h') : IntsV h' a l := by
 rcases v with v | ⟨v, m⟩
 ·exact .inl v
 ·exact .inr ⟨v.relS c x, m⟩
def OwnV (h : Heap) (v : AV) (n : Nat) (O : Nat -> List (List Int)) : Prop := ∃ els : List AV, Blt h v 1 els /\ els.length = n /\ ∀ i, i < n -> ∃ b, els[i]? = some b /\ RowsV h b (O i)
theorem OwnV.relS {bf bo : Nat} {h h' : Heap} {v : AV} {n : Nat} {O : Nat -> List (List Int)} (r : OwnV h v n O) (c : CellS bf bo h) (x : RelS bf bo h h') : OwnV h' v n O := by
 obtain ⟨els, h1, h2, h3⟩ := r
 refine ⟨els, h1.relS c x, h2, fun i hi => ?_⟩
 obtain ⟨b, b1, b2⟩ := h3 i hi
 exact ⟨b, b1, b2.relS c x⟩
theorem RowsV.parts {h : Heap} {v : AV} {g : List (List Int)} (r : RowsV h v g) : outV (some v) = some v /\ lenS v = some g.length /\ v.cells = [v] /\ isTuple v = false := by
 obtain ⟨els, h1, h2, _⟩ := r
 refine ⟨h1.out, by rw [h1.len, h2], ?_⟩
 rcases h1 with ⟨rfl, _⟩ | ⟨id, rfl, _⟩ <;> exact ⟨rfl, rfl⟩
theorem RowsV.rd {h : Heap} {v : AV} {g : List (List Int)} (r : RowsV h v g) {k : Nat} {p : List Int} (hk : g[k]? = some p) : ∃ id el b, h.get id = some (.rw 1 el) /\ el[k]? = some b /\ indexAddrV Tryz.prog h 36 v (.int .i64 (k : Int)) = some (.eptr id 1 k 0) /\ Blt h b 1 (intsE p) /\ id < h.next := by
 obtain ⟨els, h1, h2, h3⟩ := r
 obtain ⟨b, b1, b2⟩ := h3 k p hk
 have hkl : k < els.length := (List.getElem?_eq_some_iff.1 b1).1
 rcases h1 with ⟨_, e⟩ | ⟨id, rfl, hg, hlt, _⟩
 ·rw [e] at hkl; simp at hkl
 ·refine ⟨id, els, b, hg, b1, ?_, b2, hlt⟩
  have hix : idxV (.int .i64 (k : Int)) els.length = some k := by
   simp only [idxV]
   rw [if_pos (by constructor <;> omega)]
   simp
  simp only [indexAddrV, Tryz.underlying36, ty_lay24, hix, hg, if_true, Nat.zero_add]
theorem OwnV.rd {h : Heap} {v : AV} {n : Nat} {O : Nat -> List (List Int)} (r : OwnV h v n O) {i : Nat} (hi : i < n) : ∃ id el b, h.get id = some (.rw 1 el) /\ el[i]? = some b /\ indexAddrV Tryz.prog h 89 v (.int .i64 (i : Int)) = some (.eptr id 1 i 0) /\ RowsV h b (O i) /\ id < h.next := by
 obtain ⟨els, h1, h2, h3⟩ := r
 obtain ⟨b, b1, b2⟩ := h3 i hi
 have hkl : i < els.length := by omega
 rcases h1 with ⟨_, e⟩ | ⟨id, rfl, hg, hlt, _⟩
 ·rw [e] at hkl; simp at hkl
 ·refine ⟨id, els, b, hg, b1, ?_, b2, hlt⟩
  have hix : idxV (.int .i64 (i : Int)) els.length = some i := by
   simp only [idxV]
   rw [if_pos (by constructor <;> omega)]
   simp
  simp only [indexAddrV, Tryz.underlying89, ty_lay36, hix, hg, if_true, Nat.zero_add]
structure StS (bf bo : Nat) (h : Heap) (st : Option (List (List Int)) × Nat) : Prop where
 few : h.get bf = some (.var [.int .i64 (st.2 : Int)])
 out : ∃ v, h.get bo = some (.var [v]) /\ ((st.1 = none /\ v = .nilslice) \/ ∃ g, st.1 = some g /\ RowsV h v g)
theorem StS.cell {bf bo : Nat} {h : Heap} {st : Option (List (List Int)) × Nat} (s : StS bf bo h st) : CellS bf bo h := by
 obtain ⟨v, h1, _⟩ := s.out
 refine ⟨fun z r e => ?_, fun z r e => ?_⟩
 ·rw [s.few] at e; cases e
 ·rw [h1] at e; cases e
theorem StS.ext {bf bo : Nat} {h h' : Heap} {st : Option (List (List Int)) × Nat} (s : StS bf bo h st) (l1 : bf < h.next) (l2 : bo < h.next) (x : HExt h h') : StS bf bo h' st := by
 obtain ⟨v, h1, h2⟩ := s.out
 refine ⟨(x.2 _ l1).trans s.few, v, (x.2 _ l2).trans h1, ?_⟩
 rcases h2 with q | ⟨g, q1, q2⟩
 ·exact .inl q
 ·exact .inr ⟨g, q1, q2.relS s.cell (.ext x)⟩
structure EnvS (bf bh bo bw bs H : Nat) (n : Int) (ra fa oa ha wv : AV) (O : Nat -> List (List Int)) (h : Heap) : Prop where
 house : h.get bh = some (.var [.int .i64 n, ra, fa, oa, ha])
 own : h.get bw = some (.var [wv])
 self : h.get bs = some (.var [.func (.func 91) [] [.ptr bf 0, .ptr bh 0, .ptr bo 0, .ptr bw 0, .ptr bs 0]])
 rows : OwnV h wv H O
 lt : bf < h.next /\ bh < h.next /\ bo < h.next /\ bw < h.next /\ bs < h.next
 ne : bh ≠ bf /\ bh ≠ bo /\ bw ≠ bf /\ bw ≠ bo /\ bs ≠ bf /\ bs ≠ bo /\ bf ≠ bo
theorem EnvS.relS {bf bh bo bw bs H : Nat} {n : Int} {ra fa oa ha wv : AV} {O : Nat -> List (List Int)} {h h' : Heap} (e : EnvS bf bh bo bw bs H n ra fa oa ha wv O h) (c : CellS bf bo h) (x : RelS bf bo h h') : EnvS bf bh bo bw bs H n ra fa oa ha wv O h' := by
 obtain ⟨l1, l2, l3, l4, l5⟩ := e.lt
 obtain ⟨n1, n2, n3, n4, n5, n6, n7⟩ := e.ne
 have k := x.next
 exact ⟨(x.same _ l2 n1 n2).trans e.house, (x.same _ l4 n3 n4).trans e.own, (x.same _ l5 n5 n6).trans e.self, e.rows.relS c x, ⟨by omega, by omega, by omega, by omega, by omega⟩, e.ne⟩
def seR (bf bo : Nat) (h : Heap) (st : Option (List (List Int)) × Nat) (r : COut) : Prop := ∃ h', r = .ret (.tuple []) h' none /\ StS bf bo h' st /\ RelS bf bo h h'
theorem seR_fail {bf bo : Nat} {h : Heap} {st : Option (List (List Int)) × Nat} : ¬ seR bf bo h st .fail := by rintro ⟨_, e, _⟩; cases e
end Go.AM
namespace Go.AM
open Go Go.Proofs
variable [Keep]
attribute [local irreducible] W WO WO1 WD WQ WT thenQ blockQ endR isRet retK Cl ClR
attribute [local irreducible] clR
theorem C96i (c : Itr) (hc : c 96 = none) (a : AV) (p : List Int) (h : Heap) (v : IntsV h a p) (hn : p ≠ []) (hm : p.length <= 1000) : ClR (dX c) 96 [a] h (clR h (intsE p)) := by
 rcases v with v | ⟨v, _⟩
 ·have hsz : ∀ v ∈ intsE p, v.cells.length = 1 := fun v hv => by
   obtain ⟨k, _, rfl⟩ := List.mem_map.1 hv
   rfl
  have hlen : (intsE p).length <= most := by rw [intsE_len]; unfold most; omega
  have hne : intsE p ≠ [] := fun e => hn (by cases p with | nil => rfl | cons x l => unfold intsE at e; simp at e)
  have hlv : a = .vslice (intsE p) := by
   rcases (slV_is v).1 with ⟨_, e⟩ | e
   ·exact absurd e hne
   ·exact e
  subst hlv
  have hel : h.elems (.vslice (intsE p)) = some (intsE p) := rfl
  have hq := eq24v (l := intsE p)
  clear v hn
  refine ClR.walk (c := _) hc Tryz.func96 rfl (by kernel_rfl) rfl clR_fail ?_
  try simp only [entryEnv, Nat.reduceAdd, List.nil_append, List.cons_append, emptyHp]
  repeat' (first | (apply WO1.append0 (t := 24) (u := 24) (e := 3) (e' := 3) (sz := 1) (tl := []) (new := intsE p) (hx := .inl rfl); exact Z1; exact rfl; exact Z2; exact Z2; exact Z2; (focus (exact ty_row24)); (focus (first | exact Z2 | exact hel)); (focus (exact hsz)); (focus (exact hlen)); (focus (exact hne)); simp only [pM, pN]) | refine go1 ?_ | (refine go2 ?_ ?_ <;> intro hh) | fail)
  all_goals (simp only [resV_def (X := dX c) Tryz.func96, Tryz.results96]; first | exact J5 | refine J6 ?_)
  refine clR_ret (.inr ⟨h.next, rfl, ?_, Nat.le_refl _, Nat.lt_succ_self _, hne⟩) (hext_new' _ _)
  rw [Heap.get_new, if_pos rfl]
 ·exact C96 c hc a p h v hm
end Go.AM
namespace Go.AM
open Go Go.Proofs
variable [Keep]
attribute [local irreducible] W WO WO1 WD WQ WT thenQ blockQ endR isRet retK Cl ClR
open Go.TX (Rm Fa Ha Hs)
def kpB (m : Hs) (i : Nat) (p : List Int) : Bool := !decide (((busyL p : Nat) : Int) > mostAt m i) && !decide ((airS m p).2 > limAt m i)
def bzC (p : List Int) : Nat := if 0 < busyL p then 1 else 0
def lsE (g : List (List Int)) : List AV := g.map fun p => slN (intsE p)
def stfR (h : Heap) (o : Option (List (List Int))) (r : COut) : Prop := ∃ v h', r = .ret (.tuple [v, .bool o.isSome]) h' none /\ HExt h h' /\ ((o = none /\ v = .nilslice) \/ ∃ g, o = some g /\ Blt h' v 1 (lsE g))
theorem stfR_fail {h : Heap} {o : Option (List (List Int))} : ¬ stfR h o .fail := by rintro ⟨_, _, e, _⟩; cases e
theorem srR_cut {L : List (List Int)} {K : Nat -> List Int -> Bool} {C : List Int -> Nat} {d i : Nat} {taken : List (List Int)} {left : List Int} {h : Nat} (hx : (left.any fun s => decide (((mny s : Nat) : Int) > ((min h d : Nat) : Int))) = true) : srR L K C d i taken left h = none := by
 cases d with
 | zero => rw [srR, if_pos hx]
 | succ d => rw [srR, if_pos hx]
theorem srR_end {L : List (List Int)} {K : Nat -> List Int -> Bool} {C : List Int -> Nat} {i : Nat} {taken : List (List Int)} {left : List Int} {h : Nat} (hx : (left.any fun s => decide (((mny s : Nat) : Int) > ((min h 0 : Nat) : Int))) = false) : srR L K C 0 i taken left h = some taken := by
 rw [srR, if_neg (by rw [hx]; simp)]
def srF (L : List (List Int)) (K : Nat -> List Int -> Bool) (C : List Int -> Nat) (d i : Nat) (taken : List (List Int)) (left : List Int) (h : Nat) (p : List Int) : Option (List (List Int)) := if ((decide (0 < C p) && Nat.beq h 0) || !K i p || !fitsP left p) = true then none else srR L K C d (i + 1) (taken ++ [p]) (takeP left p) (h - C p)
theorem srR_go {L : List (List Int)} {K : Nat -> List Int -> Bool} {C : List Int -> Nat} {d i : Nat} {taken : List (List Int)} {left : List Int} {h : Nat} (hx : (left.any fun s => decide (((mny s : Nat) : Int) > ((min h (d + 1) : Nat) : Int))) = false) : srR L K C (d + 1) i taken left h = L.findSome? (srF L K C d i taken left h) := by
 rw [srR, if_neg (by rw [hx]; simp)]
 rfl
theorem find_next {α β : Type} {f : α -> Option β} {l : List α} {k : Nat} {x : α} (h : l[k]? = some x) (h0 : (l.take k).findSome? f = none) : (l.take (k + 1)).findSome? f = f x := by
 rw [take_next h, List.findSome?_append, h0]
 simp
theorem find_hit {α β : Type} {f : α -> Option β} {l : List α} {k : Nat} {x : α} {v : β} (h : l[k]? = some x) (h0 : (l.take k).findSome? f = none) (h1 : f x = some v) : l.findSome? f = some v := by
 have e : l = l.take (k + 1) ++ l.drop (k + 1) := (List.take_append_drop _ _).symm
 rw [e, List.findSome?_append, find_next h h0, h1]
 rfl
attribute [local irreducible] houseB pathB airS failsH hasB allP mny takeP fitsP srR srF busyL
section
variable {c : Itr}
set_option maxHeartbeats 8000000 in
theorem L100_0 (hc : CxR c) (h145 : c 145 = none) (Q : Out -> Prop) (e : Mp AV) (lm : Mp (Nat × List AV)) (hp : Heap) (ra fa oa ha allv tv la : AV) (left : List Int) (hands i d nn H : Nat) (a1 a2 a3 : AV) (hla : slV intC la = some left) (hso : SetsOk left) (hid : i + d = H) (hH : H <= 10) (hhl : hands <= 10) (lh : lenS ha = some H) (o4 : outV (some ha) = some ha)
  (c2 : e.get 2 = some allv) (c3 : e.get 3 = some tv) (c4 : e.get 4 = some la) (c5 : e.get 5 = some (.int .i64 hands)) (c6 : e.get 6 = some (.lptr 6 0 0)) (c7 : e.get 7 = some (.lptr 7 0 0)) (c14 : e.get 14 = some (.int .i64 i)) (d6 : lm.get 6 = some (0, [.int .i64 nn, ra, fa, oa, ha])) (d7 : lm.get 7 = some (0, [a1, a2, a3]))
  (hcut : (left.any fun s => decide (((mny s : Nat) : Int) > ((min hands d : Nat) : Int))) = true -> ∀ e' lm', e'.get 12 = some .nilslice -> e'.get 13 = some (.bool false) -> Q (.ret (Fr.mk 100 false e' lm' hp [] none)))
  (hgo : (left.any fun s => decide (((mny s : Nat) : Int) > ((min hands d : Nat) : Int))) = false -> ∀ e' lm', keepE [2, 3, 4, 5, 6, 7, 14] e e' -> keepL [6, 7] lm lm' -> W (dX c) (codeFrom Tryz.f100 3) (Fr.mk 100 false e' lm' hp [] none) Q) :
  W (dX c) (codeFrom Tryz.f100 2) (Fr.mk 100 false e lm hp [] none) Q := by
 have ll := sl_len hla
 have ol := sl_out hla
 have ml := sl_max hla
 have hw1 : IntKind.i64.wrap ((H : Int) - (i : Int)) = (d : Int) := by
  have := w64_small (n := (H : Int) - (i : Int)) (by omega) (by omega)
  unfold w64 at this
  rw [this]
  omega
 have hmn : minV (hands : Int) (d : Int) = ((min hands d : Nat) : Int) := by
  simp only [minV]
  split <;> omega
 generalize hbd : ((min hands d : Nat) : Int) = bd at *
 have h145' := fun s (hs : 0 <= s /\ s < 8) h => C145 hc h145 s hs h
 have H145 := J1 h145'
 have HLA := J1 hla
 have HSO := J1 hso
 have HCUT := J1 hcut
 have HGO := J1 hgo
 clear hc hla hso hcut hgo h145' hid hH hhl hbd
 repeat' (first | refine goS ?_ | (refine go2 ?_ ?_ <;> intro hh) | fail)
 refine W.loopH (left.length) [2, 3, 4, 5, 6, 7, 14] [6, 7] (fun k e lm => e.get 15 = some (.int .i64 ↑k) /\ ((left.take k).any fun s => decide (((mny s : Nat) : Int) > bd)) = false) ?_ ?_
 ·skip
  refine ⟨?_, ?_⟩
  all_goals first | exact Z2 | (simp [go_sem, *]; done) | skip
  all_goals rfl
 intro k e lm hk0 hce hcl hinv
 simp only [keepE, and_true] at hce
 obtain ⟨c2, c3, c4, c5, c6, c7, c14⟩ := hce
 simp only [go_sem, *, Nat.reduceBEq, Nat.reduceEqDiff, reduceIte] at c2 c3 c4 c5 c6 c7 c14
 simp only [keepL, and_true] at hcl
 obtain ⟨d6, d7⟩ := hcl
 simp only [go_sem, *, Nat.reduceBEq, Nat.reduceEqDiff, reduceIte] at d6 d7
 obtain ⟨h15, hq⟩ := hinv
 by_cases hlt : k < left.length
 ·have hd0 : decide ((k : Int) < ((left.length : Nat) : Int)) = true := by first | (simpa using hlt; done) | (simp only [decide_eq_true_eq]; omega)
  have hv_0 := wrap_succ hlt ml
  obtain ⟨s, hs⟩ := get_some hlt
  have hixl := fun H => ints_idx HLA.out hs H
  have k145 := fun h => H145.out s (HSO.out s (List.mem_of_getElem? hs)) h
  have hnx : ((left.take (k + 1)).any fun s => decide (((mny s : Nat) : Int) > bd)) = decide (((mny s : Nat) : Int) > bd) := by
   rw [take_next hs, List.any_append, hq]
   simp
  have hall : decide (((mny s : Nat) : Int) > bd) = true -> (left.any fun s => decide (((mny s : Nat) : Int) > bd)) = true := fun e => List.any_eq_true.2 ⟨s, List.mem_of_getElem? hs, e⟩
  have HNX := J1 hnx
  have HALL := J1 hall
  have HLT0 := J1 hlt
  clear hs hq hnx hall hlt
  generalize mny s = ms at *
  cases hd : decide ((ms : Int) > bd) with
  | true =>
   have hcut := HCUT.out (HALL.out hd)
   have HCUT2 := J1 hcut
   clear hcut
   repeat' (first | (apply W.drawQ (id := 5) (l1 := [0, 1, 2, 3, 4, 5, 6, 7, 8, 9, 10, 11, 12]) (l2 := []); kernel_rfl; kernel_rfl; kernel_rfl; exact Z4) | refine go1 ?_ | (apply U6; exact Z1; exact Z1; (exact k145 _); simp only [pM, pN, rR, rP]) | (refine go2 ?_ ?_ <;> intro hh) | fail)
   all_goals refine HCUT2.out _ _ ?_ ?_
   all_goals simp only [go_sem, *, Nat.reduceLT, Int.reduceEq, Int.reduceBEq, Int.reduceLE, Int.reduceLT, Nat.reduceAdd, Nat.reduceBEq, Nat.reduceEqDiff, reduceIte, Nat.reduceLeDiff, Nat.reduceMul, Nat.reduceSub, reduceCtorEq]
  | false =>
   repeat' (first | (apply W.drawQ (id := 5) (l1 := [0, 1, 2, 3, 4, 5, 6, 7, 8, 9, 10, 11, 12]) (l2 := []); kernel_rfl; kernel_rfl; kernel_rfl; exact Z4) | refine go1 ?_ | (apply U6; exact Z1; exact Z1; (exact k145 _); simp only [pM, pN, rR, rP]) | (refine go2 ?_ ?_ <;> intro hh) | fail)
   all_goals refine contH_mk J9 J7 J8 ?_
   all_goals refine ⟨?_, ?_⟩
   all_goals first | exact Z2 | skip
   all_goals (rw [HNX.out, hd])
 ·have hd0 : decide ((k : Int) < ((left.length : Nat) : Int)) = false := by first | (simpa using hlt; done) | (simp only [decide_eq_false_iff_not]; omega)
  obtain rfl : k = left.length := by omega
  rw [List.take_length] at hq
  have hgo := HGO.out hq
  clear hq hlt
  repeat' (first | (refine hgo _ _ ?_ ?_) | refine go1 ?_ | (refine go2 ?_ ?_ <;> intro hh) | fail)
  all_goals simp only [keepE, keepL, and_true, and_self, go_sem, *, Nat.reduceLT, Int.reduceEq, Int.reduceBEq, Int.reduceLE, Int.reduceLT, Nat.reduceAdd, Nat.reduceBEq, Nat.reduceEqDiff, reduceIte, Nat.reduceLeDiff, Nat.reduceMul, Nat.reduceSub, reduceCtorEq]
end
end Go.AM
namespace Go.AM
open Go Go.Proofs
variable [Keep]
attribute [local irreducible] W WO WO1 WD WQ WT thenQ blockQ endR isRet retK Cl ClR
open Go.TX (Rm Fa Ha Hs)
attribute [local irreducible] houseB pathB airS failsH hasB allP mny takeP fitsP srR srF busyL lsE
section
variable {c : Itr}
set_option maxHeartbeats 16000000 in
theorem R100_14 (Q : Out -> Prop) (e : Mp AV) (lm : Mp (Nat × List AV)) (hp : Heap) (ra fa oa ha allv tv la b tb : AV) (p : List Int) (taken : List (List Int)) (o' : Option (List (List Int))) (hands i k nn bz C : Nat) (a1 a2 a3 : AV)
  (oall : outV (some allv) = some allv) (ola : outV (some la) = some la) (o1 : outV (some ra) = some ra) (o2 : outV (some fa) = some fa) (o3 : outV (some oa) = some oa) (o4 : outV (some ha) = some ha) (oa1 : outV (some a1) = some a1) (oa2 : outV (some a2) = some a2) (oa3 : outV (some a3) = some a3) (otb : outV (some tb) = some tb)
  (hb : b = slN (intsE p)) (ob : outV (some b) = some b) (hcb : b.cells = [b]) (htb : isTuple b = false)
  (ix : ∀ H, indexAddrV Tryz.prog H 36 allv (.int .i64 (k : Int)) = some (.vptr [b]))
  (k147 : ∀ h, Cl (dX c) 147 [b, la] h (.ret tb h none))
  (hC : C = if 0 < bz then 1 else 0) (hhl : hands <= 10) (hz : ¬ (0 < bz /\ hands = 0)) (hbt : Blt hp tv 1 (lsE taken)) (htl : taken.length <= 100)
  (hlsn : lsE taken ++ [slN (intsE p)] = lsE (taken ++ [p])) (hlsl : (lsE taken).length = taken.length) (hlsc : ∀ v ∈ lsE taken, v.cells.length = 1)
  (hrec' : ∀ v h', HExt hp h' -> Blt h' v 1 (lsE (taken ++ [p])) -> ClR (dX c) 100 [.agg [.int .i64 nn, ra, fa, oa, ha], .agg [a1, a2, a3], allv, v, tb, .int .i64 ((hands - C : Nat) : Int)] h' (stfR h' o'))
  (c2 : e.get 2 = some allv) (c3 : e.get 3 = some tv) (c4 : e.get 4 = some la) (c5 : e.get 5 = some (.int .i64 hands)) (c6 : e.get 6 = some (.lptr 6 0 0)) (c7 : e.get 7 = some (.lptr 7 0 0)) (c14 : e.get 14 = some (.int .i64 i)) (h16 : e.get 16 = some (.int .i64 k)) (h17 : e.get 17 = some (.int .i64 (bz : Int))) (d6 : lm.get 6 = some (0, [.int .i64 nn, ra, fa, oa, ha])) (d7 : lm.get 7 = some (0, [a1, a2, a3]))
  (hnone : o' = none -> ∀ e' lm' h', HExt hp h' -> keepE [2, 3, 4, 5, 6, 7, 14, 16] e e' -> keepL [6, 7] lm lm' -> Q (.norm (Fr.mk 100 false e' lm' h' [] none)))
  (hsome : ∀ g, o' = some g -> ∀ e' lm' h' v, HExt hp h' -> Blt h' v 1 (lsE g) -> e'.get 12 = some v -> e'.get 13 = some (.bool true) -> Q (.ret (Fr.mk 100 false e' lm' h' [] none))) :
  W (dX c) (blkFrom Tryz.f100 3 2) (Fr.mk 100 false e lm hp [] none) Q := by
 have otv := hbt.out
 have hel : hp.elems tv = some (lsE taken) := by
  rcases hbt with ⟨rfl, e⟩ | ⟨id, rfl, hg, _, _⟩
  ·rw [e]; rfl
  ·simp [Heap.elems, hg]
 have hsc : b.cells.length = 1 := by rw [hcb]; rfl
 have hmin : minV (bz : Int) 1 = (C : Int) := by
  simp only [minV]
  split <;> split at hC <;> omega
 have hwc : IntKind.i64.wrap ((hands : Int) - (C : Int)) = ((hands - C : Nat) : Int) := by
  have := w64_small (n := (hands : Int) - (C : Int)) (by split at hC <;> omega) (by split at hC <;> omega)
  unfold w64 at this
  rw [this]
  split at hC <;> omega
 have hsz := hlsc
 have hlen : (lsE taken).length <= most := by rw [hlsl]; unfold most; omega
 have HNONE := J1 hnone
 have HSOME := J1 hsome
 have HREC := J1 hrec'
 have HB := J1 hb
 have HTL := J1 htl
 have HLSN := J1 hlsn
 have HLSL := J1 hlsl
 simp only [AV.cells] at hcb
 simp only [isTuple] at htb
 clear hnone hsome hrec' hb htl hbt hC hhl hlsn hlsl hlsc hz
 repeat' (first | (apply W.draw (id := 14) (lc := [0, 1, 2, 3, 4, 5, 6, 7, 8, 9, 10, 11, 12, 13, 14, 15, 16, 17, 18, 19, 20, 21, 22, 23, 24, 25, 26]) (hot := [(0, 4), (0, 10), (0, 16), (1, 4), (1, 10), (1, 16), (4, 7), (4, 8), (4, 13), (4, 14), (4, 19), (10, 13), (10, 14), (10, 19), (16, 19)]); kernel_rfl; kernel_rfl; kernel_rfl; exact Z4) | (apply WD.cons (o := ⟨some 108, _, _, _, _, none⟩); exact rfl; exact rfl) | (apply WD.cons (o := ⟨some 109, _, _, _, _, none⟩); exact rfl; exact rfl) | (apply WD.cons (o := ⟨some 110, _, _, _, _, none⟩); exact rfl; exact rfl) | (apply WD.cons (o := ⟨some 111, _, _, _, _, none⟩); exact rfl; exact rfl) | (apply WD.cons (o := ⟨some 112, _, _, _, _, none⟩); exact rfl; exact rfl) | (apply WD.cons (o := ⟨some 113, _, _, _, _, none⟩); exact rfl; exact rfl) | (apply WD.cons (o := ⟨some 114, _, _, _, _, none⟩); exact rfl; exact rfl) | (apply WD.cons (o := ⟨some 115, _, _, _, _, none⟩); exact rfl; exact rfl) | (apply WD.cons (o := ⟨some 116, _, _, _, _, none⟩); exact rfl; exact rfl) | (apply WD.cons (o := ⟨some 117, _, _, _, _, none⟩); exact rfl; exact rfl) | (apply WD.cons (o := ⟨some 118, _, _, _, _, none⟩); exact rfl; exact rfl) | (apply WD.cons (o := ⟨some 119, _, _, _, _, none⟩); exact rfl; exact rfl) | (apply WD.cons (o := ⟨some 120, _, _, _, _, none⟩); exact rfl; exact rfl) | (apply WD.cons (o := ⟨some 121, _, _, _, _, none⟩); exact rfl; exact rfl) | (apply WD.cons (o := ⟨some 99, _, _, _, _, none⟩); exact rfl; exact rfl) | (apply WD.cons (o := ⟨some 122, _, _, _, _, none⟩); exact rfl; exact rfl) | (apply WD.cons (o := ⟨some 123, _, _, _, _, none⟩); exact rfl; exact rfl) | (apply WD.cons (o := ⟨some 18, _, _, _, _, none⟩); exact rfl; exact rfl) | (apply WD.cons (o := ⟨some 19, _, _, _, _, none⟩); exact rfl; exact rfl) | (refine WD.cons rfl rfl ?_) | (refine WD.nil ⟨?_, ?_⟩; rotate_left; simp only [tN, bN, eN, true_and]) | (refine calmR rfl rfl rfl rfl rfl ?_ ?_; (focus (first | exact Z2 | exact Z1))) | (refine calmE rfl rfl rfl rfl rfl ?_ ?_; (focus (first | exact Z2 | exact Z1))) | (with_reducible refine calmEnd) | (apply WO1.appendK (t := 36) (u := 36) (e := 24) (e' := 24) (sz := 1) (tl := []) (l := lsE taken); exact Z1; exact rfl; exact Z2; exact Z2; exact Z2; (focus (exact ty_row36)); (focus (exact hel)); (focus (exact hsz)); (focus (exact hlen)); (intro v0 h0' hB0' ho0' hX0'; simp only [pM, pN])) | refine go1 ?_ | (apply U6; exact Z1; exact Z1; (exact k147 _); simp only [pM, pN, rR, rP]) | (refine go2 ?_ ?_ <;> intro hh) | fail)
 have hB := hB0'
 have hX : HExt hp h0' := hX0'
 have hll : (lsE taken).length + 1 <= most := by rw [HLSL.out]; have := HTL.out; unfold most; omega
 have hB9 := hB.blt.out
 clear hB0' hX0' hel hsz hlen
 repeat' (first | (apply W.draw (id := 14) (lc := [0, 1, 2, 3, 4, 5, 6, 7, 8, 9, 10, 11, 12, 13, 14, 15, 16, 17, 18, 19, 20, 21, 22, 23, 24, 25, 26]) (hot := [(0, 4), (0, 10), (0, 16), (1, 4), (1, 10), (1, 16), (4, 7), (4, 8), (4, 13), (4, 14), (4, 19), (10, 13), (10, 14), (10, 19), (16, 19)]); kernel_rfl; kernel_rfl; kernel_rfl; exact Z4) | (apply WD.cons (o := ⟨some 108, _, _, _, _, none⟩); exact rfl; exact rfl) | (apply WD.cons (o := ⟨some 109, _, _, _, _, none⟩); exact rfl; exact rfl) | (apply WD.cons (o := ⟨some 110, _, _, _, _, none⟩); exact rfl; exact rfl) | (apply WD.cons (o := ⟨some 111, _, _, _, _, none⟩); exact rfl; exact rfl) | (apply WD.cons (o := ⟨some 112, _, _, _, _, none⟩); exact rfl; exact rfl) | (apply WD.cons (o := ⟨some 113, _, _, _, _, none⟩); exact rfl; exact rfl) | (apply WD.cons (o := ⟨some 114, _, _, _, _, none⟩); exact rfl; exact rfl) | (apply WD.cons (o := ⟨some 115, _, _, _, _, none⟩); exact rfl; exact rfl) | (apply WD.cons (o := ⟨some 116, _, _, _, _, none⟩); exact rfl; exact rfl) | (apply WD.cons (o := ⟨some 117, _, _, _, _, none⟩); exact rfl; exact rfl) | (apply WD.cons (o := ⟨some 118, _, _, _, _, none⟩); exact rfl; exact rfl) | (apply WD.cons (o := ⟨some 119, _, _, _, _, none⟩); exact rfl; exact rfl) | (apply WD.cons (o := ⟨some 120, _, _, _, _, none⟩); exact rfl; exact rfl) | (apply WD.cons (o := ⟨some 121, _, _, _, _, none⟩); exact rfl; exact rfl) | (apply WD.cons (o := ⟨some 99, _, _, _, _, none⟩); exact rfl; exact rfl) | (apply WD.cons (o := ⟨some 122, _, _, _, _, none⟩); exact rfl; exact rfl) | (apply WD.cons (o := ⟨some 123, _, _, _, _, none⟩); exact rfl; exact rfl) | (apply WD.cons (o := ⟨some 18, _, _, _, _, none⟩); exact rfl; exact rfl) | (apply WD.cons (o := ⟨some 19, _, _, _, _, none⟩); exact rfl; exact rfl) | (refine WD.cons rfl rfl ?_) | (refine WD.nil ⟨?_, ?_⟩; rotate_left; simp only [tN, bN, eN, true_and]) | (refine calmR rfl rfl rfl rfl rfl ?_ ?_; (focus (first | exact Z2 | exact Z1))) | (refine calmE rfl rfl rfl rfl rfl ?_ ?_; (focus (first | exact Z2 | exact Z1))) | (with_reducible refine calmEnd) | (apply WO1.appendN (t := 36) (u := 36) (e := 24) (e' := 24) (sz := 1) (tl := []) (hb := hB) (hx := HExt.pair hX); exact Z1; exact rfl; exact Z2; exact Z2; exact Z2; (focus (exact ty_row36)); exact Z1; (focus (intro v hv; simp at hv; subst hv; first | rfl | exact hsc)); (focus (simp only [List.length_map, List.length_cons, List.length_nil]; exact hll)); (focus (simp)); (intro v' h' hB' ho' hX'; have hcc' := hB'.blt.cells; have htt' := hB'.blt.tup; simp only [AV.cells] at hcc'; simp only [isTuple] at htt'; simp only [pM, pN])) | refine go1 ?_ | (apply U6; exact Z1; exact Z1; (exact k147 _); simp only [pM, pN, rR, rP]) | (refine go2 ?_ ?_ <;> intro hh) | fail)
 have hbl := hB'.blt
 rw [HB.out, HLSN.out] at hbl
 have hXX : HExt hp h' := hX'
 have hr := HREC.out v' h' hXX hbl
 unfold ClR stfR at hr
 obtain ⟨_, hrec, v2, h2, rfl, hx2, hres⟩ := hr
 have hX2 : HExt hp h2 := hXX.trans hx2
 have HX2 := J1 hX2
 clear hB hX hB' hX' hbl hXX hx2 hX2 hll
 rcases hres with ⟨e0, rfl⟩ | ⟨g, e0, hbg⟩
 ·have HN2 := J1 (HNONE.out e0)
  subst e0
  simp only [Option.isSome_none] at hrec
  clear HREC
  repeat' (first | (apply W.draw (id := 14) (lc := [0, 1, 2, 3, 4, 5, 6, 7, 8, 9, 10, 11, 12, 13, 14, 15, 16, 17, 18, 19, 20, 21, 22, 23, 24, 25, 26]) (hot := [(0, 4), (0, 10), (0, 16), (1, 4), (1, 10), (1, 16), (4, 7), (4, 8), (4, 13), (4, 14), (4, 19), (10, 13), (10, 14), (10, 19), (16, 19)]); kernel_rfl; kernel_rfl; kernel_rfl; exact Z4) | (apply WD.cons (o := ⟨some 108, _, _, _, _, none⟩); exact rfl; exact rfl) | (apply WD.cons (o := ⟨some 109, _, _, _, _, none⟩); exact rfl; exact rfl) | (apply WD.cons (o := ⟨some 110, _, _, _, _, none⟩); exact rfl; exact rfl) | (apply WD.cons (o := ⟨some 111, _, _, _, _, none⟩); exact rfl; exact rfl) | (apply WD.cons (o := ⟨some 112, _, _, _, _, none⟩); exact rfl; exact rfl) | (apply WD.cons (o := ⟨some 113, _, _, _, _, none⟩); exact rfl; exact rfl) | (apply WD.cons (o := ⟨some 114, _, _, _, _, none⟩); exact rfl; exact rfl) | (apply WD.cons (o := ⟨some 115, _, _, _, _, none⟩); exact rfl; exact rfl) | (apply WD.cons (o := ⟨some 116, _, _, _, _, none⟩); exact rfl; exact rfl) | (apply WD.cons (o := ⟨some 117, _, _, _, _, none⟩); exact rfl; exact rfl) | (apply WD.cons (o := ⟨some 118, _, _, _, _, none⟩); exact rfl; exact rfl) | (apply WD.cons (o := ⟨some 119, _, _, _, _, none⟩); exact rfl; exact rfl) | (apply WD.cons (o := ⟨some 120, _, _, _, _, none⟩); exact rfl; exact rfl) | (apply WD.cons (o := ⟨some 121, _, _, _, _, none⟩); exact rfl; exact rfl) | (apply WD.cons (o := ⟨some 99, _, _, _, _, none⟩); exact rfl; exact rfl) | (apply WD.cons (o := ⟨some 122, _, _, _, _, none⟩); exact rfl; exact rfl) | (apply WD.cons (o := ⟨some 123, _, _, _, _, none⟩); exact rfl; exact rfl) | (apply WD.cons (o := ⟨some 18, _, _, _, _, none⟩); exact rfl; exact rfl) | (apply WD.cons (o := ⟨some 19, _, _, _, _, none⟩); exact rfl; exact rfl) | (refine WD.cons rfl rfl ?_) | (refine WD.nil ⟨?_, ?_⟩; rotate_left; simp only [tN, bN, eN, true_and]) | (refine calmR rfl rfl rfl rfl rfl ?_ ?_; (focus (first | exact Z2 | exact Z1))) | (refine calmE rfl rfl rfl rfl rfl ?_ ?_; (focus (first | exact Z2 | exact Z1))) | (with_reducible refine calmEnd) | refine go1 ?_ | (apply U6; exact Z1; exact Z1; (exact hrec); simp only [pM, pN, rR, rP]) | (refine go2 ?_ ?_ <;> intro hh) | fail)
  all_goals refine Y8 ?_
  all_goals refine HN2.out _ _ _ HX2.out ?_ ?_
  all_goals simp only [keepE, keepL, and_true, and_self, go_sem, *, Nat.reduceLT, Int.reduceEq, Int.reduceBEq, Int.reduceLE, Int.reduceLT, Nat.reduceAdd, Nat.reduceBEq, Nat.reduceEqDiff, reduceIte, Nat.reduceLeDiff, Nat.reduceMul, Nat.reduceSub, reduceCtorEq]
 ·have HS2 := J1 (HSOME.out g e0)
  have HBG := J1 hbg
  have ov2 := hbg.out
  have cv2 : v2.cells = [v2] /\ isTuple v2 = false := by rcases hbg with ⟨rfl, _⟩ | ⟨id, rfl, _⟩ <;> exact ⟨rfl, rfl⟩
  obtain ⟨cv2, tv2⟩ := cv2
  simp only [AV.cells] at cv2
  simp only [isTuple] at tv2
  subst e0
  simp only [Option.isSome_some] at hrec
  clear HREC hbg
  repeat' (first | (apply W.draw (id := 14) (lc := [0, 1, 2, 3, 4, 5, 6, 7, 8, 9, 10, 11, 12, 13, 14, 15, 16, 17, 18, 19, 20, 21, 22, 23, 24, 25, 26]) (hot := [(0, 4), (0, 10), (0, 16), (1, 4), (1, 10), (1, 16), (4, 7), (4, 8), (4, 13), (4, 14), (4, 19), (10, 13), (10, 14), (10, 19), (16, 19)]); kernel_rfl; kernel_rfl; kernel_rfl; exact Z4) | (apply WD.cons (o := ⟨some 108, _, _, _, _, none⟩); exact rfl; exact rfl) | (apply WD.cons (o := ⟨some 109, _, _, _, _, none⟩); exact rfl; exact rfl) | (apply WD.cons (o := ⟨some 110, _, _, _, _, none⟩); exact rfl; exact rfl) | (apply WD.cons (o := ⟨some 111, _, _, _, _, none⟩); exact rfl; exact rfl) | (apply WD.cons (o := ⟨some 112, _, _, _, _, none⟩); exact rfl; exact rfl) | (apply WD.cons (o := ⟨some 113, _, _, _, _, none⟩); exact rfl; exact rfl) | (apply WD.cons (o := ⟨some 114, _, _, _, _, none⟩); exact rfl; exact rfl) | (apply WD.cons (o := ⟨some 115, _, _, _, _, none⟩); exact rfl; exact rfl) | (apply WD.cons (o := ⟨some 116, _, _, _, _, none⟩); exact rfl; exact rfl) | (apply WD.cons (o := ⟨some 117, _, _, _, _, none⟩); exact rfl; exact rfl) | (apply WD.cons (o := ⟨some 118, _, _, _, _, none⟩); exact rfl; exact rfl) | (apply WD.cons (o := ⟨some 119, _, _, _, _, none⟩); exact rfl; exact rfl) | (apply WD.cons (o := ⟨some 120, _, _, _, _, none⟩); exact rfl; exact rfl) | (apply WD.cons (o := ⟨some 121, _, _, _, _, none⟩); exact rfl; exact rfl) | (apply WD.cons (o := ⟨some 99, _, _, _, _, none⟩); exact rfl; exact rfl) | (apply WD.cons (o := ⟨some 122, _, _, _, _, none⟩); exact rfl; exact rfl) | (apply WD.cons (o := ⟨some 123, _, _, _, _, none⟩); exact rfl; exact rfl) | (apply WD.cons (o := ⟨some 18, _, _, _, _, none⟩); exact rfl; exact rfl) | (apply WD.cons (o := ⟨some 19, _, _, _, _, none⟩); exact rfl; exact rfl) | (refine WD.cons rfl rfl ?_) | (refine WD.nil ⟨?_, ?_⟩; rotate_left; simp only [tN, bN, eN, true_and]) | (refine calmR rfl rfl rfl rfl rfl ?_ ?_; (focus (first | exact Z2 | exact Z1))) | (refine calmE rfl rfl rfl rfl rfl ?_ ?_; (focus (first | exact Z2 | exact Z1))) | (with_reducible refine calmEnd) | refine go1 ?_ | (apply U6; exact Z1; exact Z1; (exact hrec); simp only [pM, pN, rR, rP]) | (refine go2 ?_ ?_ <;> intro hh) | fail)
  all_goals refine Y7 ?_
  all_goals refine HS2.out _ _ _ _ HX2.out HBG.out ?_ ?_
  all_goals simp only [go_sem, *, Nat.reduceLT, Int.reduceEq, Int.reduceBEq, Int.reduceLE, Int.reduceLT, Nat.reduceAdd, Nat.reduceBEq, Nat.reduceEqDiff, reduceIte, Nat.reduceLeDiff, Nat.reduceMul, Nat.reduceSub, reduceCtorEq]
end
end Go.AM
namespace Go.AM
open Go Go.Proofs
variable [Keep]
attribute [local irreducible] W WO WO1 WD WQ WT thenQ blockQ endR isRet retK Cl ClR
open Go.TX (Rm Fa Ha Hs)
attribute [local irreducible] houseB pathB airS failsH hasB allP mny takeP fitsP srR srF busyL lsE
section
variable {c : Itr}
set_option maxHeartbeats 16000000 in
theorem R100_2 (K : Fr -> Prop) (Q : Out -> Prop) (e : Mp AV) (lm : Mp (Nat × List AV)) (hp : Heap) (ra fa oa ha allv tv la b tb : AV) (p : List Int) (taken : List (List Int)) (o' : Option (List (List Int))) (hands i k nn bz C N : Nat) (lim mst lo hi : Int) (fb : Bool) (a1 a2 a3 : AV)
  (lall : lenS allv = some N) (hkN : k < N) (hN : N <= maxL) (oall : outV (some allv) = some allv) (ola : outV (some la) = some la) (o1 : outV (some ra) = some ra) (o2 : outV (some fa) = some fa) (o3 : outV (some oa) = some oa) (o4 : outV (some ha) = some ha) (oa1 : outV (some a1) = some a1) (oa2 : outV (some a2) = some a2) (oa3 : outV (some a3) = some a3) (otb : fb = true -> outV (some tb) = some tb)
  (hb : b = slN (intsE p)) (ob : outV (some b) = some b) (hcb : b.cells = [b]) (htb : isTuple b = false)
  (ix : ∀ H, indexAddrV Tryz.prog H 36 allv (.int .i64 (k : Int)) = some (.vptr [b])) (ih : ∀ H, indexAddrV Tryz.prog H 25 ha (.int .i64 (i : Int)) = some (.vptr [.int .i64 lim, .int .i64 mst]))
  (k101 : ∀ h, Cl (dX c) 101 [b] h (.ret (.int .i64 (bz : Int)) h none)) (k146 : ∀ h, Cl (dX c) 146 [b, la] h (.ret (.bool fb) h none)) (k63 : ∀ h, Cl (dX c) 63 [.agg [a1, a2, a3], b] h (.ret (.agg [.int .i64 lo, .int .i64 hi]) h none)) (k147' : fb = true -> ∀ h, Cl (dX c) 147 [b, la] h (.ret tb h none))
  (hC : C = if 0 < bz then 1 else 0) (hhl : hands <= 10) (hbt : Blt hp tv 1 (lsE taken)) (htl : taken.length <= 100)
  (hlsn : lsE taken ++ [slN (intsE p)] = lsE (taken ++ [p])) (hlsl : (lsE taken).length = taken.length) (hlsc : ∀ v ∈ lsE taken, v.cells.length = 1)
  (hrec' : fb = true -> ∀ v h', HExt hp h' -> Blt h' v 1 (lsE (taken ++ [p])) -> ClR (dX c) 100 [.agg [.int .i64 nn, ra, fa, oa, ha], .agg [a1, a2, a3], allv, v, tb, .int .i64 ((hands - C : Nat) : Int)] h' (stfR h' o'))
  (c2 : e.get 2 = some allv) (c3 : e.get 3 = some tv) (c4 : e.get 4 = some la) (c5 : e.get 5 = some (.int .i64 hands)) (c6 : e.get 6 = some (.lptr 6 0 0)) (c7 : e.get 7 = some (.lptr 7 0 0)) (c14 : e.get 14 = some (.int .i64 i)) (h16 : e.get 16 = some (.int .i64 k)) (d6 : lm.get 6 = some (0, [.int .i64 nn, ra, fa, oa, ha])) (d7 : lm.get 7 = some (0, [a1, a2, a3]))
  (hskip : ((0 < bz /\ hands = 0) \/ decide ((bz : Int) > mst) = true \/ fb = false \/ decide (hi > lim) = true) -> ∀ e' lm', e'.get 16 = some (.int .i64 ((k + 1 : Nat) : Int)) -> keepE [2, 3, 4, 5, 6, 7, 14] e e' -> keepL [6, 7] lm lm' -> K (Fr.mk 100 false e' lm' hp [] none))
  (hnone : ¬ (0 < bz /\ hands = 0) -> decide ((bz : Int) > mst) = false -> fb = true -> decide (hi > lim) = false -> o' = none -> ∀ e' lm' h', HExt hp h' -> e'.get 16 = some (.int .i64 ((k + 1 : Nat) : Int)) -> keepE [2, 3, 4, 5, 6, 7, 14] e e' -> keepL [6, 7] lm lm' -> K (Fr.mk 100 false e' lm' h' [] none))
  (hsome : ¬ (0 < bz /\ hands = 0) -> decide ((bz : Int) > mst) = false -> fb = true -> decide (hi > lim) = false -> ∀ g, o' = some g -> ∀ e' lm' h' v, HExt hp h' -> Blt h' v 1 (lsE g) -> e'.get 12 = some v -> e'.get 13 = some (.bool true) -> Q (.ret (Fr.mk 100 false e' lm' h' [] none))) :
  W (dX c) (loopIn Tryz.f100 2) (Fr.mk 100 false e lm hp [] none) (thenQ K Q) := by
 have hdk : decide ((k : Int) < (N : Int)) = true := by simpa using hkN
 have hwk : IntKind.i64.wrap ((k : Int) + 1) = ((k + 1 : Nat) : Int) := wrap_succ hkN hN
 have otv := hbt.out
 have HCB := J1 hcb
 have HTB := J1 htb
 have HOTB := J1 otb
 have HSKIP := J1 hskip
 have HNONE := J1 hnone
 have HSOME := J1 hsome
 have HREC := J1 hrec'
 have HK147 := J1 k147'
 have HB := J1 hb
 have HTL := J1 htl
 have HBT := J1 hbt
 have HCC := J1 hC
 have HHL := J1 hhl
 have HLSN := J1 hlsn
 have HLSL := J1 hlsl
 have HLSC := J1 hlsc
 simp only [AV.cells] at hcb
 simp only [isTuple] at htb
 clear hskip hnone hsome hrec' k147' hb htl hbt hC hhl hkN hN hlsn hlsl hlsc otb
 by_cases z : 0 < bz /\ hands = 0
 ·have q1 : decide ((bz : Int) > 0) = true := by simp only [decide_eq_true_eq]; omega
  have q2 : ((hands : Int) == 0) = true := by simp only [beq_iff_eq]; omega
  have Z := J1 z
  clear z
  repeat' (first | (apply W.drawQ (id := 13) (l1 := [0, 1, 2, 3, 4, 5, 6, 7, 8, 9, 10, 11, 12, 13, 14, 15, 16, 17, 18, 19, 20, 21, 22, 23, 24, 25, 26, 27, 28, 29, 30, 31, 32, 33, 34, 35, 36, 37, 38, 39, 40]) (l2 := []); kernel_rfl; kernel_rfl; kernel_rfl; exact Z4) | refine go1 ?_ | (apply U6; exact Z1; exact Z1; (exact k101 _); simp only [pM, pN, rR, rP]) | (refine go2 ?_ ?_ <;> intro hh) | fail)
  all_goals refine HSKIP.out (.inl Z.out) _ _ ?_ ?_ ?_
  all_goals simp only [keepE, keepL, and_true, and_self, go_sem, *, Nat.reduceLT, Int.reduceEq, Int.reduceBEq, Int.reduceLE, Int.reduceLT, Nat.reduceAdd, Nat.reduceBEq, Nat.reduceEqDiff, reduceIte, Nat.reduceLeDiff, Nat.reduceMul, Nat.reduceSub, reduceCtorEq]
 ·have hz : decide ((bz : Int) > 0) = false \/ (decide ((bz : Int) > 0) = true /\ ((hands : Int) == 0) = false) := by
   by_cases h0 : 0 < bz
   ·right
    refine ⟨by simp only [decide_eq_true_eq]; omega, ?_⟩
    simp only [beq_eq_false_iff_ne, ne_eq]
    omega
   ·left
    simp only [decide_eq_false_iff_not]
    omega
  have Z := J1 z
  clear z
  rcases hz with q1 | ⟨q1, q2⟩
  all_goals
   cases b3 : decide ((bz : Int) > mst) with
   | true =>
    repeat' (first | (apply W.drawQ (id := 13) (l1 := [0, 1, 2, 3, 4, 5, 6, 7, 8, 9, 10, 11, 12, 13, 14, 15, 16, 17, 18, 19, 20, 21, 22, 23, 24, 25, 26, 27, 28, 29, 30, 31, 32, 33, 34, 35, 36, 37, 38, 39, 40]) (l2 := []); kernel_rfl; kernel_rfl; kernel_rfl; exact Z4) | refine go1 ?_ | (apply U6; exact Z1; exact Z1; (exact k101 _); simp only [pM, pN, rR, rP]) | (refine go2 ?_ ?_ <;> intro hh) | fail)
    all_goals refine HSKIP.out (.inr (.inl b3)) _ _ ?_ ?_ ?_
    all_goals simp only [keepE, keepL, and_true, and_self, go_sem, *, Nat.reduceLT, Int.reduceEq, Int.reduceBEq, Int.reduceLE, Int.reduceLT, Nat.reduceAdd, Nat.reduceBEq, Nat.reduceEqDiff, reduceIte, Nat.reduceLeDiff, Nat.reduceMul, Nat.reduceSub, reduceCtorEq]
   | false =>
    cases fb with
    | false =>
     repeat' (first | (apply W.drawQ (id := 13) (l1 := [0, 1, 2, 3, 4, 5, 6, 7, 8, 9, 10, 11, 12, 13, 14, 15, 16, 17, 18, 19, 20, 21, 22, 23, 24, 25, 26, 27, 28, 29, 30, 31, 32, 33, 34, 35, 36, 37, 38, 39, 40]) (l2 := []); kernel_rfl; kernel_rfl; kernel_rfl; exact Z4) | refine go1 ?_ | (apply U6; exact Z1; exact Z1; (focus (first | exact k101 _ | exact k146 _)); simp only [pM, pN, rR, rP]) | (refine go2 ?_ ?_ <;> intro hh) | fail)
     all_goals refine HSKIP.out (.inr (.inr (.inl rfl))) _ _ ?_ ?_ ?_
     all_goals simp only [keepE, keepL, and_true, and_self, go_sem, *, Nat.reduceLT, Int.reduceEq, Int.reduceBEq, Int.reduceLE, Int.reduceLT, Nat.reduceAdd, Nat.reduceBEq, Nat.reduceEqDiff, reduceIte, Nat.reduceLeDiff, Nat.reduceMul, Nat.reduceSub, reduceCtorEq]
    | true =>
     cases b5 : decide (hi > lim) with
     | true =>
      repeat' (first | (apply W.drawQ (id := 13) (l1 := [0, 1, 2, 3, 4, 5, 6, 7, 8, 9, 10, 11, 12, 13, 14, 15, 16, 17, 18, 19, 20, 21, 22, 23, 24, 25, 26, 27, 28, 29, 30, 31, 32, 33, 34, 35, 36, 37, 38, 39, 40]) (l2 := []); kernel_rfl; kernel_rfl; kernel_rfl; exact Z4) | refine go1 ?_ | (apply U6; exact Z1; exact Z1; (focus (first | exact k101 _ | exact k146 _ | exact k63 _)); simp only [pM, pN, rR, rP]) | (refine go2 ?_ ?_ <;> intro hh) | fail)
      all_goals refine HSKIP.out (.inr (.inr (.inr b5))) _ _ ?_ ?_ ?_
      all_goals simp only [keepE, keepL, and_true, and_self, go_sem, *, Nat.reduceLT, Int.reduceEq, Int.reduceBEq, Int.reduceLE, Int.reduceLT, Nat.reduceAdd, Nat.reduceBEq, Nat.reduceEqDiff, reduceIte, Nat.reduceLeDiff, Nat.reduceMul, Nat.reduceSub, reduceCtorEq]
     | false =>
      repeat' (first | (refine R100_14 (c := c) (Q := _) (e := _) (lm := _) (hp := hp) (ra := ra) (fa := fa) (oa := oa) (ha := ha) (allv := allv) (tv := tv) (la := la) (b := b) (tb := tb) (p := p) (taken := taken) (o' := o') (hands := hands) (i := i) (k := k) (nn := nn) (bz := bz) (C := C) (a1 := a1) (a2 := a2) (a3 := a3) (oall := oall) (ola := ola) (o1 := o1) (o2 := o2) (o3 := o3) (o4 := o4) (oa1 := oa1) (oa2 := oa2) (oa3 := oa3) (otb := HOTB.out rfl) (hb := HB.out) (ob := ob) (hcb := HCB.out) (htb := HTB.out) (ix := ix) (k147 := HK147.out rfl) (hC := HCC.out) (hhl := HHL.out) (hz := Z.out) (hbt := HBT.out) (htl := HTL.out) (hlsn := HLSN.out) (hlsl := HLSL.out) (hlsc := HLSC.out) (hrec' := HREC.out rfl) (c2 := Z2) (c3 := Z2) (c4 := Z2) (c5 := Z2) (c6 := Z2) (c7 := Z2) (c14 := Z2) (h16 := Z2) (h17 := Z2) (d6 := Z2) (d7 := Z2) (hnone := ?_) (hsome := ?_)) | (apply W.drawQ (id := 13) (l1 := [0, 1, 2, 3, 4, 5, 6, 7, 8, 9, 10, 11, 12, 13, 14, 15, 16, 17, 18, 19, 20, 21, 22, 23, 24, 25, 26, 27, 28, 29, 30, 31, 32, 33, 34, 35, 36, 37, 38, 39, 40]) (l2 := []); kernel_rfl; kernel_rfl; kernel_rfl; exact Z4) | refine go1 ?_ | (apply U6; exact Z1; exact Z1; (focus (first | exact k101 _ | exact k146 _ | exact k63 _)); simp only [pM, pN, rR, rP]) | (refine go2 ?_ ?_ <;> intro hh) | fail)
      ·intro e0 e1 lm1 h1 hx ke kl
       have HE0 := J1 e0
       have HX := J1 hx
       simp only [keepE, and_true, go_sem, *, Nat.reduceBEq, Nat.reduceEqDiff, reduceIte] at ke
       simp only [keepL, and_true, go_sem, *, Nat.reduceBEq, Nat.reduceEqDiff, reduceIte] at kl
       obtain ⟨g2, g3, g4, g5, g6, g7, g14, g16⟩ := ke
       obtain ⟨j6, j7⟩ := kl
       clear e0 hx
       simp only [bN, tN]
       repeat' (first | refine goS ?_ | (refine go2 ?_ ?_ <;> intro hh) | fail)
       all_goals refine HNONE.out Z.out b3 rfl b5 HE0.out _ _ _ HX.out ?_ ?_ ?_
       all_goals simp only [keepE, keepL, and_true, and_self, go_sem, *, Nat.reduceLT, Int.reduceEq, Int.reduceBEq, Int.reduceLE, Int.reduceLT, Nat.reduceAdd, Nat.reduceBEq, Nat.reduceEqDiff, reduceIte, Nat.reduceLeDiff, Nat.reduceMul, Nat.reduceSub, reduceCtorEq]
      ·intro g e0 e1 lm1 h1 v hx hbg g12 g13
       simp only [bR, tR]
       exact HSOME.out Z.out b3 rfl b5 g e0 _ _ _ _ hx hbg g12 g13
end
end Go.AM
namespace Go.AM
open Go Go.Proofs
variable [Keep]
attribute [local irreducible] W WO WO1 WD WQ WT thenQ blockQ endR isRet retK Cl ClR
open Go.TX (Rm Fa Ha Hs)
theorem lsE_snoc (g : List (List Int)) (p : List Int) : lsE g ++ [slN (intsE p)] = lsE (g ++ [p]) := by unfold lsE; rw [List.map_append]; rfl
theorem lsE_len (g : List (List Int)) : (lsE g).length = g.length := by unfold lsE; simp
theorem lsE_cells (g : List (List Int)) : ∀ v ∈ lsE g, v.cells.length = 1 := fun v hv => by
 unfold lsE at hv
 obtain ⟨n, _, rfl⟩ := List.mem_map.1 hv
 rw [(slN_is (intsE n)).cells]; rfl
theorem srF_skip {m : Hs} {L : List (List Int)} {d i : Nat} {taken : List (List Int)} {left : List Int} {hands : Nat} {p : List Int} (h : (0 < busyL p /\ hands = 0) \/ decide ((busyL p : Int) > mostAt m i) = true \/ fitsP left p = false \/ decide ((airS m p).2 > limAt m i) = true) : srF L (kpB m) bzC d i taken left hands p = none := by
 unfold srF
 rw [if_pos]
 rcases h with ⟨h1, h2⟩ | h | h | h
 ·have : bzC p = 1 := by unfold bzC; rw [if_pos h1]
  rw [this, h2]
  rfl
 ·unfold kpB; rw [h]; simp
 ·rw [h]; simp
 ·unfold kpB; rw [h]; simp
theorem srF_go {m : Hs} {L : List (List Int)} {d i : Nat} {taken : List (List Int)} {left : List Int} {hands : Nat} {p : List Int} (h1 : ¬ (0 < busyL p /\ hands = 0)) (h2 : decide ((busyL p : Int) > mostAt m i) = false) (h3 : fitsP left p = true) (h4 : decide ((airS m p).2 > limAt m i) = false) : srF L (kpB m) bzC d i taken left hands p = srR L (kpB m) bzC d (i + 1) (taken ++ [p]) (takeP left p) (hands - bzC p) := by
 unfold srF
 rw [if_neg]
 unfold kpB
 rw [h2, h3, h4]
 simp only [Bool.not_false, Bool.and_self, Bool.not_true, Bool.or_false, Bool.and_eq_true, decide_eq_true_eq, not_and]
 intro h5 h6
 have h6 := Nat.eq_of_beq_eq_true h6
 refine h1 ⟨?_, h6⟩
 unfold bzC at h5
 split at h5
 ·assumption
 ·omega
attribute [local irreducible] houseB pathB airS failsH hasB allP mny takeP fitsP srR srF busyL lsE
section
variable {c : Itr}
theorem rows_at {g : List (List Int)} (hli : lisV (slN (rowsE g)) = some g) (hm : ∀ p ∈ g, p.length <= maxL) {k : Nat} {p : List Int} (hp : g[k]? = some p) (H : Heap) : indexAddrV Tryz.prog H 36 (slN (rowsE g)) (.int .i64 ↑k) = some (.vptr [slN (intsE p)]) := by
 obtain ⟨b, h1, h2⟩ := lis_idx hli hp
 have e1 : (rowsE g)[k]? = some (slN (intsE p)) := by unfold rowsE; rw [List.getElem?_map, hp]; rfl
 have e2 := (slN_is (rowsE g)).idx (P := Tryz.prog) (hp := H) (x := slN (intsE p)) (m := 1) Tryz.underlying36 ty_lay24 e1 (by rw [(slN_is (intsE p)).cells]; rfl)
 rw [(slN_is (intsE p)).cells] at e2
 exact e2
set_option maxHeartbeats 16000000 in
theorem G100 (hc : CxR c) (h100 : c 100 = none) (h101 : c 101 = none) (h145 : c 145 = none) (h146 : c 146 = none) (h147 : c 147 = some (pureFn sp147)) (h63 : c 63 = none) (h71 : c 71 = none) (m : Hs) (ho : HOk m) (ra fa oa ha : AV) (hA : HsA m ra fa oa ha) (nn : Nat) (hnn : m.hours = nn) :
  ∀ d tv taken la left (hands : Nat) h, taken.length + d = m.hands.length -> Blt h tv 1 (lsE taken) -> slV intC la = some left -> left.length = nn -> SetsOk left -> hands <= 10 ->
  ClR (dX c) 100 [.agg [.int .i64 nn, ra, fa, oa, ha], airE m, slN (rowsE (allP m.rooms.length nn)), tv, la, .int .i64 (hands : Int)] h (stfR h (srR (allP m.rooms.length nn) (kpB m) bzC d taken.length taken left hands)) := by
 have hh := ho.hours
 have hr3 := ho.rooms
 have hhd := ho.hands
 have o1 := sl_out hA.r
 have o2 := sl_out hA.f
 have o3 := sl_out hA.o
 have o4 := sl_out hA.h
 have lh := sl_len hA.h
 have hmem : ∀ p ∈ allP m.rooms.length nn, pathB m p = true /\ p.length = nn /\ PLt 3 p := fun p hp => by
  obtain ⟨q1, q2⟩ := allP_mem hp
  refine ⟨?_, q1, fun x hx => by have := q2 x hx; omega⟩
  unfold pathB
  rw [q1, Bool.and_eq_true, List.all_eq_true]
  refine ⟨by rw [hnn]; simp, fun x hx => ?_⟩
  rw [w64_small (by omega) (by omega), inB_iff]
  have := q2 x hx
  omega
 have hl256 : (allP m.rooms.length nn).length <= 256 := by
  rw [allP_len]
  have h1 : (m.rooms.length + 1) ^ nn <= 4 ^ nn := Nat.pow_le_pow_left (by omega) nn
  have h2 : 4 ^ nn <= 4 ^ 4 := Nat.pow_le_pow_right (by omega) (by omega)
  omega
 have hli := rows_lis (g := allP m.rooms.length nn) (by unfold maxL; omega) fun l hl => by rw [(hmem l hl).2.1]; unfold maxL; omega
 have ls := lis_len hli
 have os := lis_out hli
 have hlm : ∀ p ∈ allP m.rooms.length nn, p.length <= maxL := fun p hp => by rw [(hmem p hp).2.1]; unfold maxL; omega
 obtain ⟨a1, a2, a3, hae, oa1, oa2, oa3⟩ : ∃ a1 a2 a3, airE m = .agg [a1, a2, a3] /\ outV (some a1) = some a1 /\ outV (some a2) = some a2 /\ outV (some a3) = some a3 := ⟨_, _, _, rfl, (slN_is _).out, (slN_is _).out, (slN_is _).out⟩
 have k63' := fun (pa : AV) (p : List Int) (hp : slV intC pa = some p) (hq : pathB m p = true) (h : Heap) => C63 (c := c) h63 h71 m ho pa p h (pth_of hp) hq
 rw [hae] at k63' ⊢
 have hH : m.hands.length <= 10 := by omega
 have HH10 := J1 hH
 have HN1 := J1 (show 1 <= nn by omega)
 intro d
 induction d with
 | zero =>
  intro tv taken la left hands h hid hbt hla hll hso hhl
  have otv := hbt.out
  have ltv := hbt.len
  rw [lsE_len] at ltv
  have ola := sl_out hla
  have hcv : tv.cells = [tv] /\ isTuple tv = false := by rcases hbt with ⟨rfl, _⟩ | ⟨id, rfl, _⟩ <;> exact ⟨rfl, rfl⟩
  obtain ⟨hcv, htv⟩ := hcv
  simp only [AV.cells] at hcv
  simp only [isTuple] at htv
  have HBT := J1 hbt
  refine ClR.walk (c := _) h100 Tryz.func100 rfl (by kernel_rfl) rfl stfR_fail ?_
  try simp only [entryEnv, Nat.reduceAdd, List.nil_append, List.cons_append, emptyHp]
  repeat' (first | (refine L100_0 hc h145 _ _ _ h ra fa oa ha (slN (rowsE (allP m.rooms.length nn))) tv la left hands taken.length _ nn m.hands.length a1 a2 a3 hla hso hid hH hhl lh o4 Z2 Z2 Z2 Z2 Z2 Z2 Z2 Z2 Z2 ?_ ?_) | refine go1 ?_ | (refine go2 ?_ ?_ <;> intro hh) | fail)
  ·intro hcut e' lm' g12 g13
   rw [srR_cut hcut]
   simp only [eR]
   all_goals (simp only [resV_def (X := dX c) Tryz.func100, Tryz.results100]; first | exact J5 | refine J6 ?_)
   exact ⟨_, _, rfl, HExt.refl _, .inl ⟨rfl, rfl⟩⟩
  ·intro hgo e' lm' ke kl
   simp only [keepE, and_true, go_sem, *, Nat.reduceBEq, Nat.reduceEqDiff, reduceIte] at ke
   simp only [keepL, and_true, go_sem, *, Nat.reduceBEq, Nat.reduceEqDiff, reduceIte] at kl
   obtain ⟨g2, g3, g4, g5, g6, g7, g14⟩ := ke
   obtain ⟨j6, j7⟩ := kl
   rw [srR_end hgo]
   have he : ((taken.length : Int) == (m.hands.length : Int)) = true := by simp only [beq_iff_eq]; omega
   clear hgo hla hll hso hbt k63' hmem hli hlm
   repeat' (first | refine goS ?_ | (refine go2 ?_ ?_ <;> intro hh) | fail)
   all_goals (simp only [resV_def (X := dX c) Tryz.func100, Tryz.results100]; first | exact J5 | refine J6 ?_)
   exact ⟨_, _, rfl, HExt.refl _, .inr ⟨taken, rfl, HBT.out⟩⟩
 | succ d ih =>
  intro tv taken la left hands h hid hbt hla hll hso hhl
  have otv := hbt.out
  have ltv := hbt.len
  rw [lsE_len] at ltv
  have ola := sl_out hla
  have hcv : tv.cells = [tv] /\ isTuple tv = false := by rcases hbt with ⟨rfl, _⟩ | ⟨id, rfl, _⟩ <;> exact ⟨rfl, rfl⟩
  obtain ⟨hcv, htv⟩ := hcv
  simp only [AV.cells] at hcv
  simp only [isTuple] at htv
  refine ClR.walk (c := _) h100 Tryz.func100 rfl (by kernel_rfl) rfl stfR_fail ?_
  try simp only [entryEnv, Nat.reduceAdd, List.nil_append, List.cons_append, emptyHp]
  repeat' (first | (refine L100_0 hc h145 _ _ _ h ra fa oa ha (slN (rowsE (allP m.rooms.length nn))) tv la left hands taken.length _ nn m.hands.length a1 a2 a3 hla hso hid hH hhl lh o4 Z2 Z2 Z2 Z2 Z2 Z2 Z2 Z2 Z2 ?_ ?_) | refine go1 ?_ | (refine go2 ?_ ?_ <;> intro hh) | fail)
  ·intro hcut e' lm' g12 g13
   rw [srR_cut hcut]
   simp only [eR]
   all_goals (simp only [resV_def (X := dX c) Tryz.func100, Tryz.results100]; first | exact J5 | refine J6 ?_)
   exact ⟨_, _, rfl, HExt.refl _, .inl ⟨rfl, rfl⟩⟩
  ·intro hgo e' lm' ke kl
   simp only [keepE, and_true, go_sem, *, Nat.reduceBEq, Nat.reduceEqDiff, reduceIte] at ke
   simp only [keepL, and_true, go_sem, *, Nat.reduceBEq, Nat.reduceEqDiff, reduceIte] at kl
   obtain ⟨g2, g3, g4, g5, g6, g7, g14⟩ := ke
   obtain ⟨j6, j7⟩ := kl
   rw [srR_go hgo]
   have he : ((taken.length : Int) == (m.hands.length : Int)) = false := by simp only [beq_eq_false_iff_ne, ne_eq]; omega
   obtain ⟨x, hx⟩ := get_some (l := m.hands) (k := taken.length) (by omega)
   have hix := fun H => has_idx hA.h hx H
   have hlim : limAt m taken.length = x.limit := by unfold limAt; rw [hx]
   have hmst : mostAt m taken.length = x.most := by unfold mostAt; rw [hx]
   rw [<- hlim, <- hmst] at hix
   have hw9 : maxL = maxL := rfl
   have HK63 := J1 k63'
   have HLI := J1 hli
   have HLM := J1 hlm
   have HMEM := J1 hmem
   have HIH := J1 ih
   have HLA := J1 hla
   have HLL := J1 hll
   have HSO := J1 hso
   have HBT := J1 hbt
   have HHL := J1 hhl
   have HID := J1 hid
   have H256 := J1 hl256
   have HNN := J1 hnn
   have HC := J1 hc
   clear hgo hla hll hso hbt k63' hmem hli hlm ih hx hlim hmst hid hhl hl256 hnn hc hA ho hh hr3 hhd hH hae
   repeat' (first | refine goS ?_ | (refine go2 ?_ ?_ <;> intro hh) | fail)
   refine W.loopV ((allP m.rooms.length nn).length) [2, 3, 4, 5, 6, 7, 14] [6, 7] (fun k e lm hp => e.get 16 = some (.int .i64 ↑k) /\ ((allP m.rooms.length nn).take k).findSome? (srF (allP m.rooms.length nn) (kpB m) bzC d taken.length taken left hands) = none /\ HExt h hp) ?_ ?_
   ·skip
    refine ⟨?_, ?_, HExt.refl _⟩
    all_goals first | exact Z2 | (simp [go_sem, *]; done) | skip
    all_goals rfl
   intro k e lm hp hk0 hce hcl hinv
   simp only [keepE, and_true] at hce
   obtain ⟨c2, c3, c4, c5, c6, c7, c14⟩ := hce
   simp only [go_sem, *, Nat.reduceBEq, Nat.reduceEqDiff, reduceIte] at c2 c3 c4 c5 c6 c7 c14
   simp only [keepL, and_true] at hcl
   obtain ⟨d6, d7⟩ := hcl
   simp only [go_sem, *, Nat.reduceBEq, Nat.reduceEqDiff, reduceIte] at d6 d7
   obtain ⟨h16, hq, hX⟩ := hinv
   by_cases hlt : k < (allP m.rooms.length nn).length
   ·have hd0 : decide ((k : Int) < (((allP m.rooms.length nn).length : Nat) : Int)) = true := by first | (simpa using hlt; done) | (simp only [decide_eq_true_eq]; omega)
    have hv_0 := wrap_succ hlt (by have := H256.out; unfold maxL; omega)
    obtain ⟨p, hpk⟩ := get_some hlt
    obtain ⟨m1, m2, m3⟩ := HMEM.out p (List.mem_of_getElem? hpk)
    have hsp := ints_sl p (by rw [m2]; have := HLM.out p (List.mem_of_getElem? hpk); rw [m2] at this; exact this)
    have hlp : left.length = p.length := HLL.out.trans m2.symm
    have htk : takeP left p = takeP left p := rfl
    have hlt2 := takeP_len left p
    have hnn4 : p.length ≠ 0 := by rw [m2]; have := HN1.out; omega
    refine R100_2 (c := c) (K := _) (Q := _) (e := e) (lm := lm) (hp := hp) (ra := ra) (fa := fa) (oa := oa) (ha := ha) (allv := slN (rowsE (allP m.rooms.length nn))) (tv := tv) (la := la) (b := slN (intsE p)) (tb := slN (intsE (takeP left p))) (p := p) (taken := taken) (o' := srR (allP m.rooms.length nn) (kpB m) bzC d (taken.length + 1) (taken ++ [p]) (takeP left p) (hands - bzC p)) (hands := hands) (i := taken.length) (k := k) (nn := nn) (bz := busyL p) (C := bzC p) (N := (allP m.rooms.length nn).length) (lim := limAt m taken.length) (mst := mostAt m taken.length) (lo := (airS m p).1) (hi := (airS m p).2) (fb := fitsP left p) (a1 := a1) (a2 := a2) (a3 := a3)
     (lall := ls) (hkN := hlt) (hN := by have := H256.out; unfold maxL; omega) (oall := os) (ola := ola) (o1 := o1) (o2 := o2) (o3 := o3) (o4 := o4) (oa1 := oa1) (oa2 := oa2) (oa3 := oa3) (otb := fun _ => (slN_is _).out)
     (hb := rfl) (ob := (slN_is _).out) (hcb := (slN_is _).cells) (htb := (slN_is _).tup) (ix := fun H => rows_at HLI.out HLM.out hpk H) (ih := hix)
     (k101 := fun h => C101 h101 _ p hsp h) (k146 := fun h => C146 HC.out h146 _ _ p left hsp HLA.out hlp m3 HSO.out h) (k63 := fun h => HK63.out _ p hsp m1 h) (k147' := fun hf h => K147 h147 hsp HLA.out hf hlp hnn4 m3 HSO.out h)
     (hC := rfl) (hhl := HHL.out) (hbt := (HBT.out).ext hX) (htl := by have := HID.out; have := HH10.out; omega) (hlsn := lsE_snoc taken p) (hlsl := lsE_len taken) (hlsc := lsE_cells taken)
     (hrec' := fun hf v h' hx hb => ?_) (c2 := c2) (c3 := c3) (c4 := c4) (c5 := c5) (c6 := c6) (c7 := c7) (c14 := c14) (h16 := h16) (d6 := d6) (d7 := d7) (hskip := fun hs e' lm' g16 ke kl => ?_) (hnone := fun z1 z2 z3 z4 e0 e' lm' h' hx g16 ke kl => ?_) (hsome := fun z1 z2 z3 z4 g e0 e' lm' h' v hx hb g12 g13 => ?_)
    ·have := HIH.out v (taken ++ [p]) (slN (intsE (takeP left p))) (takeP left p) (hands - bzC p) h' (by rw [List.length_append]; have := HID.out; simp only [List.length_cons, List.length_nil]; omega) hb (ints_sl _ (by rw [hlt2, hlp]; have := HLM.out p (List.mem_of_getElem? hpk); exact this)) (by rw [hlt2]; exact HLL.out) (take_ok HSO.out m3 hf) (by have := HHL.out; omega)
     have e9 : (taken ++ [p]).length = taken.length + 1 := by simp
     rw [e9] at this
     exact this
    ·have hn := (find_next (f := srF (allP m.rooms.length nn) (kpB m) bzC d taken.length taken left hands) hpk hq).trans (srF_skip hs)
     have HN := J1 hn
     have HX := J1 hX
     have HLT0 := J1 hlt
     clear hn hq hX hlt hs hpk m1 m2 m3 hsp hlp hlt2 hnn4
     simp only [keepE, and_true] at ke
     simp only [keepL, and_true] at kl
     obtain ⟨g2, g3, g4, g5, g6, g7, g14⟩ := ke
     obtain ⟨j6, j7⟩ := kl
     rw [c2] at g2
     rw [c3] at g3
     rw [c4] at g4
     rw [c5] at g5
     rw [c6] at g6
     rw [c7] at g7
     rw [c14] at g14
     rw [d6] at j6
     rw [d7] at j7
     clear c2 c3 c4 c5 c6 c7 c14 d6 d7 h16
     all_goals refine contV_mk J9 J7 J8 ?_
     all_goals refine ⟨?_, HN.out, HX.out⟩
     all_goals first | exact Z2 | skip
    ·have hn := ((find_next (f := srF (allP m.rooms.length nn) (kpB m) bzC d taken.length taken left hands) hpk hq).trans (srF_go z1 z2 z3 z4)).trans e0
     have HN := J1 hn
     have HX := J1 (hX.trans hx)
     have HLT0 := J1 hlt
     clear hn hq hX hlt hpk m1 m2 m3 hsp hlp hlt2 hnn4 hx z1 z2 z3 z4 e0
     simp only [keepE, and_true] at ke
     simp only [keepL, and_true] at kl
     obtain ⟨g2, g3, g4, g5, g6, g7, g14⟩ := ke
     obtain ⟨j6, j7⟩ := kl
     rw [c2] at g2
     rw [c3] at g3
     rw [c4] at g4
     rw [c5] at g5
     rw [c6] at g6
     rw [c7] at g7
     rw [c14] at g14
     rw [d6] at j6
     rw [d7] at j7
     clear c2 c3 c4 c5 c6 c7 c14 d6 d7 h16
     all_goals refine contV_mk J9 J7 J8 ?_
     all_goals refine ⟨?_, HN.out, HX.out⟩
     all_goals first | exact Z2 | skip
    ·have hn := find_hit (f := srF (allP m.rooms.length nn) (kpB m) bzC d taken.length taken left hands) hpk hq ((srF_go z1 z2 z3 z4).trans e0)
     rw [hn]
     have HX := J1 (hX.trans hx)
     have HBG := J1 hb
     have ov := hb.out
     clear hn hq hX hlt hpk m1 m2 m3 hsp hlp hlt2 hnn4 hx z1 z2 z3 z4 e0 hb
     simp only [bR, tR, eR]
     all_goals (simp only [resV_def (X := dX c) Tryz.func100, Tryz.results100]; first | exact J5 | refine J6 ?_)
     exact ⟨_, _, rfl, HX.out, .inr ⟨_, rfl, HBG.out⟩⟩
   ·have hd0 : decide ((k : Int) < (((allP m.rooms.length nn).length : Nat) : Int)) = false := by first | (simpa using hlt; done) | (simp only [decide_eq_false_iff_not]; omega)
    obtain rfl : k = (allP m.rooms.length nn).length := by omega
    rw [List.take_length] at hq
    rw [hq]
    have HX := J1 hX
    clear hq hX hlt
    repeat' (first | refine goS ?_ | (refine go2 ?_ ?_ <;> intro hh) | fail)
    all_goals (simp only [resV_def (X := dX c) Tryz.func100, Tryz.results100]; first | exact J5 | refine J6 ?_)
    exact ⟨_, _, rfl, HX.out, .inl ⟨rfl, rfl⟩⟩
end
end Go.AM
namespace Go.AM
open Go Go.Proofs
variable [Keep]
attribute [local irreducible] W WO WO1 WD WQ WT thenQ blockQ endR isRet retK Cl ClR
open Go.TX (Rm Fa Ha Hs)
attribute [local irreducible] hasB takeP fitsP andN bitI tkF fitF ocF mny bzC
section
variable {c : Itr}
theorem goP_cut {C : List Int -> Nat} {O : Nat -> List (List Int)} {d i : Nat} {now : List (List Int)} {left : List Int} {hands : Nat} {st : Option (List (List Int)) × Nat} (h : (decide (hands >= st.2) || left.any fun s => decide (ocF s > ((d : Nat) : Int))) = true) : goP (C := C) (O := O) d i now left hands st = st := by
 cases d with
 | zero => rw [goP, if_pos h]
 | succ d => rw [goP, if_pos h]
set_option maxHeartbeats 16000000 in
theorem G91z (h91 : c 91 = none) (h92 : c 92 = none) (h141 : c 141 = none) (h93 : c 93 = none) (h95 : c 95 = none) (h94 : c 94 = none) (h143 : c 143 = some (pureFn sp143)) (h89 : c 89 = some (pureFn sp89)) (H nn : Nat) (hH : H <= 4) (n : Int) (ra fa oa ha wv : AV) (O : Nat -> List (List Int)) (bf bh bo bw bs : Nat) (lh : lenS ha = some H) (o1 : outV (some ra) = some ra) (o2 : outV (some fa) = some fa) (o3 : outV (some oa) = some oa) (o4 : outV (some ha) = some ha) (hO : ∀ i p, p ∈ O i -> p.length = nn /\ PLt 3 p) :
  ∀ now nv lv left (hands : Nat) st h, now.length + 0 = H -> RowsV h nv now -> IntsV h lv left -> left.length = nn -> SetsOk left -> hands <= 10 -> StS bf bo h st -> EnvS bf bh bo bw bs H n ra fa oa ha wv O h ->
  ClR (dX c) 91 [nv, lv, .int .i64 (hands : Int), .ptr bf 0, .ptr bh 0, .ptr bo 0, .ptr bw 0, .ptr bs 0] h (seR bf bo h (goP (C := bzC) (O := O) 0 now.length now left hands st)) := by
 all_goals
  intro now nv lv left hands st h hid hnow hlv hll hso hhl hst hen
  obtain ⟨hn, hm⟩ := h
  obtain ⟨e1, e2, e3, e4, e5, e6⟩ := hen
  obtain ⟨l1, l2, l3, l4, l5⟩ := e5
  obtain ⟨on, ln, cn, tn⟩ := hnow.parts
  have ol := hlv.out
  obtain ⟨ov, q1, q2⟩ := hst.out
  have few := hst.few
  have b1 : (hn == bf) = false := by simp only [beq_eq_false_iff_ne, ne_eq]; simp only at l1; omega
  have b2 : (hn == bh) = false := by simp only [beq_eq_false_iff_ne, ne_eq]; simp only at l2; omega
  have b3 : (hn == bo) = false := by simp only [beq_eq_false_iff_ne, ne_eq]; simp only at l3; omega
  have hx : HExt ⟨hn, hm⟩ ⟨hn + 1, hm.set hn (.var [nv])⟩ := ⟨Nat.le_succ _, fun id hi => by
   simp only at hi
   rw [hget_set, if_neg (by omega)]
   rfl⟩
  have hl2 : IntsV ⟨hn + 1, hm.set hn (.var [nv])⟩ lv left := hlv.relS hst.cell (.ext hx)
  have k92a := C92r h92 h141 hl2 93 [] [.ptr bh 0, .ptr hn 0] (fun s => decide (ocF s > ((H - now.length : Nat) : Int))) (fun s hs => C93 (c := c) h93 h94 h143 ((hx.2 bh l2).trans e1) (by rw [hget_set, if_pos rfl]) lh o4 ln on (by omega) (by omega) s (hso s hs))
  have k92b := C92r h92 h141 hl2 95 [] [] (fun s => s != 0) (fun s hs => C95 (c := c) h95 s _)
  have hHn : H - now.length = 0 := by omega
  rw [hHn] at k92a
  have hee : ((now.length : Int) == (H : Int)) = true := by simp only [beq_iff_eq]; omega
  have HST := J1 hst
  have HNOW := J1 hnow
  have HX := J1 hx
  have HNE := J1 e6
  simp only [hp_get] at e1 q1 few
  simp only [AV.cells] at cn
  simp only [isTuple] at tn
  have HL := J1 (And.intro l1 (And.intro l2 l3))
  clear hlv hl2 hso hst hnow hx e2 e3 e4 l1 l2 l3 l4 l5 q2 e6 hHn hid hO
  cases g1 : decide ((hands : Int) >= (st.2 : Int)) with
  | true =>
   have hcut : (decide (hands >= st.2) || left.any fun s => decide (ocF s > ((0 : Nat) : Int))) = true := by
    have : hands >= st.2 := by simp only [decide_eq_true_eq] at g1; omega
    simp [this]
   rw [goP_cut hcut]
   clear hcut
   refine ClR.walk (c := _) h91 Tryz.func91 rfl (by kernel_rfl) rfl seR_fail ?_
   try simp only [entryEnv, Nat.reduceAdd, List.nil_append, List.cons_append, emptyHp]
   repeat' (first | refine goS ?_ | (refine go2 ?_ ?_ <;> intro hh) | fail)
   all_goals (simp only [resV_def (X := dX c) Tryz.func91, Tryz.results91]; first | exact J5 | refine J6 ?_)
   exact ⟨_, rfl, HST.out.ext HL.out.1 HL.out.2.2 HX.out, .ext HX.out⟩
  | false =>
   have hn1 : ¬ hands >= st.2 := by simp only [decide_eq_false_iff_not] at g1; omega
   cases g2 : (left.any fun s => decide (ocF s > ((0 : Nat) : Int))) with
   | true =>
    rw [g2] at k92a
    rw [goP_cut (by rw [g2, Bool.or_true])]
    clear hn1 g2
    refine ClR.walk (c := _) h91 Tryz.func91 rfl (by kernel_rfl) rfl seR_fail ?_
    try simp only [entryEnv, Nat.reduceAdd, List.nil_append, List.cons_append, emptyHp]
    repeat' (first | refine goS ?_ | (apply U6; exact Z1; exact Z1; (exact k92a); simp only [pM, pN, rR, rP]) | (refine go2 ?_ ?_ <;> intro hh) | fail)
    all_goals (simp only [resV_def (X := dX c) Tryz.func91, Tryz.results91]; first | exact J5 | refine J6 ?_)
    exact ⟨_, rfl, HST.out.ext HL.out.1 HL.out.2.2 HX.out, .ext HX.out⟩
   | false =>
    rw [g2] at k92a
    have hg : goP (C := bzC) (O := O) 0 now.length now left hands st = if (left.any fun s => s != 0) = true then st else (some now, hands) := by
     rw [goP, if_neg]
     rw [g2, Bool.or_false]
     simpa using hn1
    rw [hg]
    clear hg hn1 g2
    cases g3 : (left.any fun s => s != 0) with
    | true =>
     rw [g3] at k92b
     rw [if_pos rfl]
     clear g3
     refine ClR.walk (c := _) h91 Tryz.func91 rfl (by kernel_rfl) rfl seR_fail ?_
     try simp only [entryEnv, Nat.reduceAdd, List.nil_append, List.cons_append, emptyHp]
     repeat' (first | refine goS ?_ | (apply U6; exact Z1; exact Z1; (focus (first | exact k92a | exact k92b)); simp only [pM, pN, rR, rP]) | (refine go2 ?_ ?_ <;> intro hh) | fail)
     all_goals (simp only [resV_def (X := dX c) Tryz.func91, Tryz.results91]; first | exact J5 | refine J6 ?_)
     exact ⟨_, rfl, HST.out.ext HL.out.1 HL.out.2.2 HX.out, .ext HX.out⟩
    | false =>
     rw [g3] at k92b
     rw [if_neg (by simp)]
     have b4 : (bo == bf) = false := by have := HNE.out; simp only [beq_eq_false_iff_ne, ne_eq]; omega
     clear g3
     refine ClR.walk (c := _) h91 Tryz.func91 rfl (by kernel_rfl) rfl seR_fail ?_
     try simp only [entryEnv, Nat.reduceAdd, List.nil_append, List.cons_append, emptyHp]
     repeat' (first | refine goS ?_ | (apply U6; exact Z1; exact Z1; (focus (first | exact k92a | exact k92b)); simp only [pM, pN, rR, rP]) | (refine go2 ?_ ?_ <;> intro hh) | fail)
     all_goals (simp only [resV_def (X := dX c) Tryz.func91, Tryz.results91]; first | exact J5 | refine J6 ?_)
     have hne := HNE.out
     have hrel : RelS bf bo ⟨hn, hm⟩ ⟨hn + 1, ((hm.set hn (.var [nv])).set bo (.var [nv])).set bf (.var [.int .i64 ↑hands])⟩ := ⟨Nat.le_succ _, fun id h1 h2 h3 => by
      simp only at h1
      rw [hget_set, if_neg (fun e => h2 e.symm), hget_set, if_neg (fun e => h3 e.symm), hget_set, if_neg (by omega)]
      rfl⟩
     refine ⟨_, rfl, ⟨?_, nv, ?_, .inr ⟨now, rfl, HNOW.out.relS HST.out.cell hrel⟩⟩, hrel⟩
     ·rw [hget_set, if_pos rfl]
     ·rw [hget_set, if_neg (by omega), hget_set, if_pos rfl]
end
end Go.AM
namespace Go.AM
open Go Go.Proofs
variable [Keep]
attribute [local irreducible] W WO WO1 WD WQ WT thenQ blockQ endR isRet retK Cl ClR
open Go.TX (Rm Fa Ha Hs)
theorem RowsV.snoc {h h' : Heap} {v : AV} {els : List AV} {g : List (List Int)} {b : AV} {p : List Int} (hv : Blt h' v 1 (els ++ [b])) (hl : els.length = g.length) (he : ∀ (k : Nat) (p : List Int), g[k]? = some p -> ∃ b, els[k]? = some b /\ Blt h b 1 (intsE p)) (x : HExt h h') (hb : Blt h b 1 (intsE p)) : RowsV h' v (g ++ [p]) := by
 refine ⟨els ++ [b], hv, by simp [hl], fun k q hk => ?_⟩
 by_cases e : k < g.length
 ·rw [List.getElem?_append_left e] at hk
  obtain ⟨b', b1, b2⟩ := he k q hk
  exact ⟨b', by rw [List.getElem?_append_left (by omega)]; exact b1, b2.ext x⟩
 ·rw [List.getElem?_append_right (by omega)] at hk
  have h0 : k - g.length = 0 := by
   obtain ⟨h1, _⟩ := List.getElem?_eq_some_iff.1 hk
   simp only [List.length_cons, List.length_nil] at h1
   omega
  rw [h0] at hk
  simp only [List.getElem?_cons_zero, Option.some.injEq] at hk
  subst hk
  exact ⟨b, by rw [List.getElem?_append_right (by omega), hl, h0]; rfl, hb.ext x⟩
attribute [local irreducible] hasB takeP fitsP andN bitI tkF fitF ocF mny bzC goP clR
section
variable {c : Itr}
set_option maxHeartbeats 16000000 in
theorem R91_18 (h98 : c 98 = none) (Q : Out -> Prop) (e : Mp AV) (lm : Mp (Nat × List AV)) (hp : Heap) (nv pa tv : AV) (now : List (List Int)) (p : List Int) (many b8 bf bh bo bw bs : Nat) (st' : Option (List (List Int)) × Nat) (hnow : RowsV hp nv now) (hnl : now.length <= 100) (hpa : Blt hp pa 1 (intsE p)) (otv : outV (some tv) = some tv)
  (g8 : hp.get b8 = some (.var [nv])) (gs : hp.get bs = some (.var [.func (.func 91) [] [.ptr bf 0, .ptr bh 0, .ptr bo 0, .ptr bw 0, .ptr bs 0]])) (ls : bs < hp.next)
  (hrec' : ∀ v h', HExt hp h' -> RowsV h' v (now ++ [p]) -> ClR (dX c) 91 (([] ++ [v, tv, .int .i64 (many : Int)]) ++ [.ptr bf 0, .ptr bh 0, .ptr bo 0, .ptr bw 0, .ptr bs 0]) h' (seR bf bo h' st'))
  (c7 : e.get 7 = some (.ptr bs 0)) (c8 : e.get 8 = some (.ptr b8 0)) (c12 : e.get 12 = some pa) (c13 : e.get 13 = some tv) (c14 : e.get 14 = some (.int .i64 (many : Int)))
  (hgo : ∀ e' lm' h2, keepE [1, 2, 7, 8, 40, 41, 42] e e' -> StS bf bo h2 st' -> RelS bf bo hp h2 -> Q (.norm (Fr.mk 91 false e' lm' h2 [] none))) :
  W (dX c) (blkFrom Tryz.f91 1 4) (Fr.mk 91 false e lm hp [] none) Q := by
 obtain ⟨on, ln, cn, tn⟩ := hnow.parts
 obtain ⟨els, n1, n2, n3⟩ := hnow
 have opa := hpa.out
 have hcp : pa.cells = [pa] /\ isTuple pa = false := by rcases hpa with ⟨rfl, _⟩ | ⟨id, rfl, _⟩ <;> exact ⟨rfl, rfl⟩
 obtain ⟨hcp, htp⟩ := hcp
 have hsc : pa.cells.length = 1 := by rw [hcp]; rfl
 have hsz : ∀ v ∈ els, v.cells.length = 1 := fun v hv => by
  obtain ⟨k, hk, rfl⟩ := List.getElem_of_mem hv
  obtain ⟨q, hq⟩ := get_some (l := now) (k := k) (by omega)
  obtain ⟨b, b1, b2⟩ := n3 k q hq
  rw [List.getElem?_eq_getElem hk] at b1
  rw [Option.some.inj b1]
  rcases b2 with ⟨rfl, _⟩ | ⟨id, rfl, _⟩ <;> rfl
 have hcl := C98 c h98 nv els hp n1 hsz (by omega)
 unfold ClR clR at hcl
 obtain ⟨_, hcl98, v1, h1, rfl, hB, hX⟩ := hcl
 have ov1 := hB.blt.out
 have gs1 := (hX.2 bs ls).trans gs
 have hll : els.length + 1 <= most := by unfold most; omega
 have HREC := J1 hrec'
 have HGO := J1 hgo
 have HPA := J1 hpa
 have N2 := J1 n2
 have N3 := J1 n3
 have HX := J1 hX
 have HLS := J1 ls
 simp only [AV.cells] at cn hcp
 simp only [isTuple] at tn htp
 clear hrec' hgo hpa n1 n2 n3 hsz ls
 repeat' (first | (apply W.draw (id := 18) (lc := [0, 1, 2, 3, 4, 5, 6, 7, 8]) (hot := [(0, 2), (0, 5)]); kernel_rfl; kernel_rfl; kernel_rfl; exact Z4) | (apply WD.cons (o := ⟨some 87, _, _, _, _, none⟩); exact rfl; exact rfl) | (refine WD.cons rfl rfl ?_) | (refine WD.nil ⟨?_, ?_⟩; rotate_left; simp only [tN, bN, eN, true_and]) | (refine calmR rfl rfl rfl rfl rfl ?_ ?_; (focus (first | exact Z2 | exact Z1))) | (refine calmE rfl rfl rfl rfl rfl ?_ ?_; (focus (first | exact Z2 | exact Z1))) | (with_reducible refine calmEnd) | (apply WO1.appendN (t := 36) (u := 36) (e := 24) (e' := 24) (sz := 1) (tl := []) (hb := hB) (hx := HExt.pair hX); exact Z1; exact rfl; exact Z2; exact Z2; exact Z2; (focus (exact ty_row36)); exact Z1; (focus (intro v hv; simp at hv; subst hv; first | rfl | exact hsc)); (focus (simp only [List.length_map, List.length_cons, List.length_nil]; exact hll)); (focus (simp)); (intro v' h' hB' ho' hX'; have hcc' := hB'.blt.cells; have htt' := hB'.blt.tup; simp only [AV.cells] at hcc'; simp only [isTuple] at htt'; simp only [pM, pN])) | refine go1 ?_ | (apply U6; exact Z1; exact Z1; (exact hcl98); simp only [pM, pN, rR, rP]) | (refine go2 ?_ ?_ <;> intro hh) | fail)
 have hbl := hB'.blt
 have hXX : HExt hp h' := hX'
 have hrows := RowsV.snoc hbl N2.out N3.out hXX HPA.out
 have hr := HREC.out v' h' hXX hrows
 unfold ClR seR at hr
 obtain ⟨_, hrec, h2, rfl, hs2, hr2⟩ := hr
 have gs2 : h'.get bs = _ := (hXX.2 bs HLS.out).trans gs
 have HS2 := J1 hs2
 have HR2 := J1 ((RelS.ext hXX).trans hr2)
 clear hB hX hB' hX' hbl hXX hs2 hr2 hrows hll
 repeat' (first | (apply W.draw (id := 18) (lc := [0, 1, 2, 3, 4, 5, 6, 7, 8]) (hot := [(0, 2), (0, 5)]); kernel_rfl; kernel_rfl; kernel_rfl; exact Z4) | (apply WD.cons (o := ⟨some 87, _, _, _, _, none⟩); exact rfl; exact rfl) | (refine WD.cons rfl rfl ?_) | (refine WD.nil ⟨?_, ?_⟩; rotate_left; simp only [tN, bN, eN, true_and]) | (refine calmR rfl rfl rfl rfl rfl ?_ ?_; (focus (first | exact Z2 | exact Z1))) | (refine calmE rfl rfl rfl rfl rfl ?_ ?_; (focus (first | exact Z2 | exact Z1))) | (with_reducible refine calmEnd) | refine go1 ?_ | (apply U6; exact Z1; exact Z1; (focus (first | exact hcl98 | exact hrec)); simp only [pM, pN, rR, rP]) | (refine go2 ?_ ?_ <;> intro hh) | fail)
 refine WD.nil ⟨?_, HGO.out _ _ _ ?_ HS2.out HR2.out⟩
 ·repeat' (first | (apply W.draw (id := 18) (lc := [0, 1, 2, 3, 4, 5, 6, 7, 8]) (hot := [(0, 2), (0, 5)]); kernel_rfl; kernel_rfl; kernel_rfl; exact Z4) | (apply WD.cons (o := ⟨some 87, _, _, _, _, none⟩); exact rfl; exact rfl) | (refine WD.cons rfl rfl ?_) | (refine WD.nil ⟨?_, ?_⟩; rotate_left; simp only [tN, bN, eN, true_and]) | (refine calmR rfl rfl rfl rfl rfl ?_ ?_; (focus (first | exact Z2 | exact Z1))) | (refine calmE rfl rfl rfl rfl rfl ?_ ?_; (focus (first | exact Z2 | exact Z1))) | (with_reducible refine calmEnd) | refine go1 ?_ | (apply U6; exact Z1; exact Z1; (focus (first | exact hcl98 | exact hrec)); simp only [pM, pN, rR, rP]) | (refine go2 ?_ ?_ <;> intro hh) | fail)
 ·exact J7
end
end Go.AM
namespace Go.AM
open Go Go.Proofs
variable [Keep]
attribute [local irreducible] W WO WO1 WD WQ WT thenQ blockQ endR isRet retK Cl ClR
open Go.TX (Rm Fa Ha Hs)
attribute [local irreducible] hasB takeP fitsP andN bitI tkF fitF ocF mny bzC goP clR busyL
section
variable {c : Itr}
set_option maxHeartbeats 16000000 in
theorem R91_0 (h96 : c 96 = none) (h97 : c 97 = some (flatFnD sp97)) (h98 : c 98 = none) (h89 : c 89 = some (pureFn sp89)) (K : Fr -> Prop) (Q : Out -> Prop) (e : Mp AV) (lm : Mp (Nat × List AV)) (hp : Heap) (nv lv bv pb : AV) (now : List (List Int)) (left p : List Int) (nn hands b8 bf bh bo bw bs k N idr : Nat) (el : List AV) (st' : Option (List (List Int)) × Nat)
  (hnow : RowsV hp nv now) (hnl : now.length <= 100) (vl : IntsV hp lv left) (hll : left.length = nn) (hn1 : 1 <= nn) (hn4 : nn <= 4) (hso : SetsOk left) (hhl : hands <= 20) (hkN : k < N) (hNm : N <= maxL)
  (hg : hp.get idr = some (.rw 1 el)) (hek : el[k]? = some pb) (hix : indexAddrV Tryz.prog hp 36 bv (.int .i64 (k : Int)) = some (.eptr idr 1 k 0)) (hpb : Blt hp pb 1 (intsE p)) (hpn : p.length = nn) (hpl : PLt 3 p)
  (g8 : hp.get b8 = some (.var [nv])) (l8 : b8 < hp.next) (gs : hp.get bs = some (.var [.func (.func 91) [] [.ptr bf 0, .ptr bh 0, .ptr bo 0, .ptr bw 0, .ptr bs 0]])) (ls : bs < hp.next) (lidr : idr < hp.next)
  (hrec' : fitsP left p = true -> ∀ v tv h', HExt hp h' -> RowsV h' v (now ++ [p]) -> IntsV h' tv (takeP left p) -> ClR (dX c) 91 (([] ++ [v, tv, .int .i64 ((hands + bzC p : Nat) : Int)]) ++ [.ptr bf 0, .ptr bh 0, .ptr bo 0, .ptr bw 0, .ptr bs 0]) h' (seR bf bo h' st'))
  (c1 : e.get 1 = some lv) (c2 : e.get 2 = some (.int .i64 (hands : Int))) (c7 : e.get 7 = some (.ptr bs 0)) (c8 : e.get 8 = some (.ptr b8 0)) (c40 : e.get 40 = some bv) (c41 : e.get 41 = some (.int .i64 (N : Int))) (c42 : e.get 42 = some (.int .i64 (k : Int)))
  (hskip : fitsP left p = false -> ∀ e' lm' h', keepE [1, 2, 7, 8, 40, 41] e e' -> e'.get 42 = some (.int .i64 ((k + 1 : Nat) : Int)) -> HExt hp h' -> K (Fr.mk 91 false e' lm' h' [] none))
  (hgo : fitsP left p = true -> ∀ e' lm' h2, keepE [1, 2, 7, 8, 40, 41] e e' -> e'.get 42 = some (.int .i64 ((k + 1 : Nat) : Int)) -> StS bf bo h2 st' -> RelS bf bo hp h2 -> K (Fr.mk 91 false e' lm' h2 [] none)) :
  W (dX c) (loopIn Tryz.f91 0) (Fr.mk 91 false e lm hp [] none) (thenQ K Q) := by
 have hdk : decide ((k : Int) < (N : Int)) = true := by simpa using hkN
 have hwk : IntKind.i64.wrap ((k : Int) + 1) = ((k + 1 : Nat) : Int) := wrap_succ hkN hNm
 have opb := hpb.out
 have ol := vl.out
 have hcp : pb.cells = [pb] /\ isTuple pb = false := by rcases hpb with ⟨rfl, _⟩ | ⟨id, rfl, _⟩ <;> exact ⟨rfl, rfl⟩
 obtain ⟨hcp, htp⟩ := hcp
 have hlne : left ≠ [] := fun e => by rw [e] at hll; simp at hll; omega
 have hcl := C96i c h96 lv left hp vl hlne (by omega)
 unfold ClR clR at hcl
 obtain ⟨_, hcl96, v1, h1, rfl, hB, hX⟩ := hcl
 obtain ⟨tid, rfl, hgt, hti0, hti⟩ : ∃ tid, v1 = .row tid 0 p.length /\ h1.get tid = some (.rw 1 (intsE left)) /\ hp.next <= tid /\ tid < h1.next := by
  rcases hB with ⟨_, e⟩ | ⟨id, q1, q2, q3, q4, _⟩
  ·exact absurd (by cases left with | nil => rfl | cons x l => unfold intsE at e; simp at e) hlne
  ·exact ⟨id, by rw [q1, intsE_len]; rw [hll, hpn], q2, q3, q4⟩
 have hpb1 := hpb.ext hX
 have k97 := K97r (X := dX c) h97 (pth_blt hpb1 (by unfold maxL; omega))
 rw [worked_busy (by omega) (fun x hx => (hpl x hx).1)] at k97
 have hpt : ∀ off n, pb ≠ .row tid off n := fun off n e => by
  rcases hpb with ⟨q, _⟩ | ⟨id, q, _, q3, _⟩
  ·rw [q] at e; cases e
  ·rw [q] at e; cases e; omega
 have hlt' : ∀ off n, lv ≠ .row tid off n := fun off n e => by
  rcases vl with v | ⟨v, _⟩
  ·rcases (slV_is v).1 with ⟨q, _⟩ | q
   ·rcases q with q | q <;> (rw [q] at e; cases e)
   ·rw [q] at e; cases e
  ·rcases v with ⟨q, _⟩ | ⟨id, q, _, q3, _⟩
   ·rw [q] at e; cases e
   ·rw [q] at e; cases e; omega
 have hvl1 : IntsV h1 lv left := by
  rcases vl with v | ⟨v, m⟩
  ·exact .inl v
  ·exact .inr ⟨v.ext hX, m⟩
 have hnow1 : ∀ h2, HExt hp h2 -> RowsV h2 nv now := fun h2 x => by
  obtain ⟨els, q1, q2, q3⟩ := hnow
  exact ⟨els, q1.ext x, q2, fun k p hk => by obtain ⟨b, b1, b2⟩ := q3 k p hk; exact ⟨b, b1, b2.ext x⟩⟩
 have hsame : ∀ h2 : Heap, h2.next = h1.next -> (∀ id, id ≠ tid -> h2.get id = h1.get id) -> HExt hp h2 := fun h2 z1 z2 => ⟨by rw [z1]; exact hX.1, fun id hid => (z2 id (by omega)).trans (hX.2 id hid)⟩
 obtain ⟨many, hmany⟩ : ∃ many, many = hands + bzC p := ⟨_, rfl⟩
 rw [<- hmany] at hrec'
 have HVP := J1 (show IntsV h1 pb p from .inr ⟨hpb1, by unfold maxL; omega⟩)
 have HVL := J1 hvl1
 have HLEN := J1 (hll.trans hpn.symm)
 have HPL := J1 hpl
 have HSO := J1 hso
 have HGT := J1 hgt
 have HTI := J1 hti
 have HPT := J1 hpt
 have HLTT := J1 hlt'
 have HNOW1 := J1 hnow1
 have HSAME := J1 hsame
 have HREC := J1 hrec'
 have HSKIP := J1 hskip
 have HGO := J1 hgo
 have HPB := J1 hpb
 have HNL := J1 hnl
 have HG8 := J1 g8
 have HGS := J1 gs
 have HLS := J1 ls
 have HL8 := J1 l8
 have HPN := J1 hpn
 have HX := J1 hX
 have HPN1 := J1 (show p.length ≠ 0 by omega)
 have HLM := J1 (show left.length <= maxL by unfold maxL; omega)
 have hbzc : bzC p = if 0 < busyL p then 1 else 0 := by unfold bzC; rfl
 simp only [AV.cells] at hcp
 simp only [isTuple] at htp
 by_cases hbz : 0 < busyL p
 ·have d0 : decide ((busyL p : Int) > 0) = true := by simp only [decide_eq_true_eq]; omega
  have hw : IntKind.i64.wrap ((hands : Int) + 1) = (many : Int) := by
   rw [hbzc, if_pos hbz] at hmany
   have := w64_small (n := (hands : Int) + 1) (by omega) (by omega)
   unfold w64 at this
   rw [this]
   omega
  clear hB hX hgt hti0 hti hpb1 hpt hlt' hvl1 hnow1 hsame hmany hnow hnl vl hll hn1 hn4 hso hhl hkN hNm hpb hpn hpl g8 l8 gs ls hrec' hskip hgo hlne hbzc hbz
  repeat' (first | (refine L91_2 (c := c) (h89 := h89) (Q := _) (e := _) (lm := _) (hp0 := h1) (pa := pb) (lv := lv) (p := p) (l := left) (tid := tid) (vp := HVP.out) (vl := HVL.out) (hlen := HLEN.out) (hpl := HPL.out) (hs := HSO.out) (hgt := HGT.out) (hti := HTI.out) (hpt := HPT.out) (hlt' := HLTT.out) (z2 := .int .i64 (hands : Int)) (z7 := .ptr bs 0) (z8 := .ptr b8 0) (z14 := .int .i64 (many : Int)) (z40 := bv) (z41 := .int .i64 (N : Int)) (z42 := .int .i64 (k : Int)) (z8b := _) (d8 := rfl) (c1 := Z2) (c2 := Z2) (c7 := Z2) (c8 := Z2) (c12 := Z2) (c13 := Z2) (c14 := Z2) (c40 := Z2) (c41 := Z2) (c42 := Z2) (hno := ?_) (hyes := ?_)) | refine go1 ?_ | (apply U6; exact Z1; exact Z1; (focus (first | exact hcl96 | exact k97)); simp only [pM, pN, rR, rP]) | (refine go2 ?_ ?_ <;> intro hh) | fail)
  ·intro hf e' lm' hp' ke hn2 hg2
   simp only [keepE, and_true, go_sem, *, Nat.reduceBEq, Nat.reduceEqDiff, reduceIte] at ke
   obtain ⟨g1, g2, g7, g8', g40, g41, g42⟩ := ke
   have HX2 := J1 (HSAME.out hp' hn2 hg2)
   have HF := J1 hf
   clear hn2 hg2 hf
   simp only [bS, tN]
   repeat' (first | refine goS ?_ | (refine go2 ?_ ?_ <;> intro hh) | fail)
   all_goals refine HSKIP.out HF.out _ _ _ ?_ ?_ HX2.out
   all_goals exact J7
  ·intro hf e' lm' hp' ke hn2 hg2 ht2
   simp only [keepE, and_true, go_sem, *, Nat.reduceBEq, Nat.reduceEqDiff, reduceIte] at ke
   obtain ⟨g1, g2, g7, g8', g12, g13, g14, g40, g41, g42⟩ := ke
   have hx2 := HSAME.out hp' hn2 hg2
   refine R91_18 (c := c) (h98 := h98) (Q := _) (e := e') (lm := lm') (hp := hp') (nv := nv) (pa := pb) (tv := .row tid 0 p.length) (now := now) (p := p) (many := many) (b8 := b8) (bf := bf) (bh := bh) (bo := bo) (bw := bw) (bs := bs) (st' := st') (hnow := HNOW1.out hp' hx2) (hnl := HNL.out) (hpa := HPB.out.ext hx2) (otv := rfl) (g8 := (hx2.2 b8 HL8.out).trans HG8.out) (gs := (hx2.2 bs HLS.out).trans HGS.out) (ls := Nat.lt_of_lt_of_le HLS.out hx2.1) (hrec' := fun v h2 x2 r2 => HREC.out hf v (.row tid 0 p.length) h2 (hx2.trans x2) r2 ?_) (c7 := g7) (c8 := g8') (c12 := g12) (c13 := g13) (c14 := g14) (hgo := fun e2 lm2 h2 ke2 hs2 hr2 => ?_)
   ·have hl9 : (intsE (takeP left p)).length = p.length := by rw [intsE_len, takeP_len]; exact HLEN.out
    have ht9 : tid < hp'.next := by rw [hn2]; exact HTI.out
    have hb9 : Blt h2 (.row tid 0 (intsE (takeP left p)).length) 1 (intsE (takeP left p)) := .inr ⟨tid, rfl, (x2.2 tid ht9).trans ht2, Nat.lt_of_lt_of_le ht9 x2.1, fun e => by rw [e, List.length_nil] at hl9; have := HPN1.out; omega⟩
    rw [hl9] at hb9
    exact .inr ⟨hb9, by rw [takeP_len]; exact HLM.out⟩
   ·have HX2 := J1 ((RelS.ext hx2).trans hr2)
    have HS2 := J1 hs2
    have HF := J1 hf
    simp only [keepE, and_true] at ke2
    obtain ⟨k1, k2, k7, k8, k40, k41, k42⟩ := ke2
    rw [g1] at k1
    rw [g2] at k2
    rw [g7] at k7
    rw [g8'] at k8
    rw [g40] at k40
    rw [g41] at k41
    rw [g42] at k42
    clear hn2 hg2 ht2 hx2 hr2 hs2 hf g1 g2 g7 g8' g12 g13 g14 g40 g41 g42
    simp only [bN, tN]
    repeat' (first | refine goS ?_ | (refine go2 ?_ ?_ <;> intro hh) | fail)
    all_goals refine HGO.out HF.out _ _ _ ?_ ?_ HS2.out HX2.out
    all_goals exact J7
 ·have d0 : decide ((busyL p : Int) > 0) = false := by simp only [decide_eq_false_iff_not]; omega
  have hmz : (hands : Int) = (many : Int) := by rw [hbzc, if_neg hbz] at hmany; omega
  clear hB hX hgt hti0 hti hpb1 hpt hlt' hvl1 hnow1 hsame hmany hnow hnl vl hll hn1 hn4 hso hhl hkN hNm hpb hpn hpl g8 l8 gs ls hrec' hskip hgo hlne hbzc hbz
  repeat' (first | (refine L91_2 (c := c) (h89 := h89) (Q := _) (e := _) (lm := _) (hp0 := h1) (pa := pb) (lv := lv) (p := p) (l := left) (tid := tid) (vp := HVP.out) (vl := HVL.out) (hlen := HLEN.out) (hpl := HPL.out) (hs := HSO.out) (hgt := HGT.out) (hti := HTI.out) (hpt := HPT.out) (hlt' := HLTT.out) (z2 := .int .i64 (hands : Int)) (z7 := .ptr bs 0) (z8 := .ptr b8 0) (z14 := .int .i64 (many : Int)) (z40 := bv) (z41 := .int .i64 (N : Int)) (z42 := .int .i64 (k : Int)) (z8b := _) (d8 := rfl) (c1 := Z2) (c2 := Z2) (c7 := Z2) (c8 := Z2) (c12 := Z2) (c13 := Z2) (c14 := Z2) (c40 := Z2) (c41 := Z2) (c42 := Z2) (hno := ?_) (hyes := ?_)) | refine go1 ?_ | (apply U6; exact Z1; exact Z1; (focus (first | exact hcl96 | exact k97)); simp only [pM, pN, rR, rP]) | (refine go2 ?_ ?_ <;> intro hh) | fail)
  ·intro hf e' lm' hp' ke hn2 hg2
   simp only [keepE, and_true, go_sem, *, Nat.reduceBEq, Nat.reduceEqDiff, reduceIte] at ke
   obtain ⟨g1, g2, g7, g8', g40, g41, g42⟩ := ke
   have HX2 := J1 (HSAME.out hp' hn2 hg2)
   have HF := J1 hf
   clear hn2 hg2 hf
   simp only [bS, tN]
   repeat' (first | refine goS ?_ | (refine go2 ?_ ?_ <;> intro hh) | fail)
   all_goals refine HSKIP.out HF.out _ _ _ ?_ ?_ HX2.out
   all_goals exact J7
  ·intro hf e' lm' hp' ke hn2 hg2 ht2
   simp only [keepE, and_true, go_sem, *, Nat.reduceBEq, Nat.reduceEqDiff, reduceIte] at ke
   obtain ⟨g1, g2, g7, g8', g12, g13, g14, g40, g41, g42⟩ := ke
   have hx2 := HSAME.out hp' hn2 hg2
   refine R91_18 (c := c) (h98 := h98) (Q := _) (e := e') (lm := lm') (hp := hp') (nv := nv) (pa := pb) (tv := .row tid 0 p.length) (now := now) (p := p) (many := many) (b8 := b8) (bf := bf) (bh := bh) (bo := bo) (bw := bw) (bs := bs) (st' := st') (hnow := HNOW1.out hp' hx2) (hnl := HNL.out) (hpa := HPB.out.ext hx2) (otv := rfl) (g8 := (hx2.2 b8 HL8.out).trans HG8.out) (gs := (hx2.2 bs HLS.out).trans HGS.out) (ls := Nat.lt_of_lt_of_le HLS.out hx2.1) (hrec' := fun v h2 x2 r2 => HREC.out hf v (.row tid 0 p.length) h2 (hx2.trans x2) r2 ?_) (c7 := g7) (c8 := g8') (c12 := g12) (c13 := g13) (c14 := g14) (hgo := fun e2 lm2 h2 ke2 hs2 hr2 => ?_)
   ·have hl9 : (intsE (takeP left p)).length = p.length := by rw [intsE_len, takeP_len]; exact HLEN.out
    have ht9 : tid < hp'.next := by rw [hn2]; exact HTI.out
    have hb9 : Blt h2 (.row tid 0 (intsE (takeP left p)).length) 1 (intsE (takeP left p)) := .inr ⟨tid, rfl, (x2.2 tid ht9).trans ht2, Nat.lt_of_lt_of_le ht9 x2.1, fun e => by rw [e, List.length_nil] at hl9; have := HPN1.out; omega⟩
    rw [hl9] at hb9
    exact .inr ⟨hb9, by rw [takeP_len]; exact HLM.out⟩
   ·have HX2 := J1 ((RelS.ext hx2).trans hr2)
    have HS2 := J1 hs2
    have HF := J1 hf
    simp only [keepE, and_true] at ke2
    obtain ⟨k1, k2, k7, k8, k40, k41, k42⟩ := ke2
    rw [g1] at k1
    rw [g2] at k2
    rw [g7] at k7
    rw [g8'] at k8
    rw [g40] at k40
    rw [g41] at k41
    rw [g42] at k42
    clear hn2 hg2 ht2 hx2 hr2 hs2 hf g1 g2 g7 g8' g12 g13 g14 g40 g41 g42
    simp only [bN, tN]
    repeat' (first | refine goS ?_ | (refine go2 ?_ ?_ <;> intro hh) | fail)
    all_goals refine HGO.out HF.out _ _ _ ?_ ?_ HS2.out HX2.out
    all_goals exact J7
end
end Go.AM
namespace Go.AM
open Go Go.Proofs
variable [Keep]
attribute [local irreducible] W WO WO1 WD WQ WT thenQ blockQ endR isRet retK Cl ClR
open Go.TX (Rm Fa Ha Hs)
theorem goP_step {C : List Int -> Nat} {O : Nat -> List (List Int)} {d i : Nat} {now : List (List Int)} {left : List Int} {hands : Nat} {st : Option (List (List Int)) × Nat} (h : (decide (hands >= st.2) || left.any fun s => decide (ocF s > ((d + 1 : Nat) : Int))) = false) : goP (C := C) (O := O) (d + 1) i now left hands st = (O i).foldl (fun st p => if fitsP left p = true then goP (C := C) (O := O) d (i + 1) (now ++ [p]) (takeP left p) (hands + C p) st else st) st := by
 rw [goP, if_neg (by rw [h]; simp)]
attribute [local irreducible] hasB takeP fitsP andN bitI tkF fitF ocF mny bzC goP busyL
section
variable {c : Itr}
set_option maxHeartbeats 16000000 in
theorem G91 (h91 : c 91 = none) (h92 : c 92 = none) (h141 : c 141 = none) (h93 : c 93 = none) (h95 : c 95 = none) (h94 : c 94 = none) (h96 : c 96 = none) (h97 : c 97 = some (flatFnD sp97)) (h98 : c 98 = none) (h143 : c 143 = some (pureFn sp143)) (h89 : c 89 = some (pureFn sp89)) (H nn : Nat) (hH : H <= 4) (hn1 : 1 <= nn) (hn4 : nn <= 4) (n : Int) (ra fa oa ha wv : AV) (O : Nat -> List (List Int)) (bf bh bo bw bs : Nat) (lh : lenS ha = some H) (o1 : outV (some ra) = some ra) (o2 : outV (some fa) = some fa) (o3 : outV (some oa) = some oa) (o4 : outV (some ha) = some ha) (hO : ∀ i p, p ∈ O i -> p.length = nn /\ PLt 3 p) (hOl : ∀ i, (O i).length <= maxL) :
  ∀ d now nv lv left (hands : Nat) st h, now.length + d = H -> RowsV h nv now -> IntsV h lv left -> left.length = nn -> SetsOk left -> hands + d <= 10 -> StS bf bo h st -> EnvS bf bh bo bw bs H n ra fa oa ha wv O h ->
  ClR (dX c) 91 [nv, lv, .int .i64 (hands : Int), .ptr bf 0, .ptr bh 0, .ptr bo 0, .ptr bw 0, .ptr bs 0] h (seR bf bo h (goP (C := bzC) (O := O) d now.length now left hands st)) := by
 intro d
 induction d with
 | zero => exact fun now nv lv left hands st h a1 a2 a3 a4 a5 a6 a7 a8 => G91z h91 h92 h141 h93 h95 h94 h143 h89 H nn hH n ra fa oa ha wv O bf bh bo bw bs lh o1 o2 o3 o4 hO now nv lv left hands st h a1 a2 a3 a4 a5 (by omega) a7 a8
 | succ d ih =>
  intro now nv lv left hands st h hid hnow hlv hll hso hhl hst hen
  obtain ⟨hn, hm⟩ := h
  have hen0 := hen
  obtain ⟨e1, e2, e3, e4, e5, e6⟩ := hen
  obtain ⟨l1, l2, l3, l4, l5⟩ := e5
  obtain ⟨on, ln, cn, tn⟩ := hnow.parts
  have ol := hlv.out
  obtain ⟨ov, q1, q2⟩ := hst.out
  have few := hst.few
  have b1 : (hn == bf) = false := by simp only [beq_eq_false_iff_ne, ne_eq]; simp only at l1; omega
  have b2 : (hn == bh) = false := by simp only [beq_eq_false_iff_ne, ne_eq]; simp only at l2; omega
  have b3 : (hn == bo) = false := by simp only [beq_eq_false_iff_ne, ne_eq]; simp only at l3; omega
  have b5 : (hn == bw) = false := by simp only [beq_eq_false_iff_ne, ne_eq]; simp only at l4; omega
  have hx : HExt ⟨hn, hm⟩ ⟨hn + 1, hm.set hn (.var [nv])⟩ := ⟨Nat.le_succ _, fun id hi => by
   simp only at hi
   rw [hget_set, if_neg (by omega)]
   rfl⟩
  have hl2 : IntsV ⟨hn + 1, hm.set hn (.var [nv])⟩ lv left := hlv.relS hst.cell (.ext hx)
  have k92a := C92r h92 h141 hl2 93 [] [.ptr bh 0, .ptr hn 0] (fun s => decide (ocF s > ((H - now.length : Nat) : Int))) (fun s hs => C93 (c := c) h93 h94 h143 ((hx.2 bh l2).trans e1) (by rw [hget_set, if_pos rfl]) lh o4 ln on (by omega) (by omega) s (hso s hs))
  have hHn : H - now.length = d + 1 := by omega
  rw [hHn] at k92a
  have hee : ((now.length : Int) == (H : Int)) = false := by simp only [beq_eq_false_iff_ne, ne_eq]; omega
  have HST := J1 hst
  have HNOW := J1 hnow
  have HX := J1 hx
  have HNE := J1 e6
  simp only [hp_get] at e1 e2 q1 few
  simp only [AV.cells] at cn
  simp only [isTuple] at tn
  have HL := J1 (And.intro l1 (And.intro l2 l3))
  cases g1 : decide ((hands : Int) >= (st.2 : Int)) with
  | true =>
   have hcut : (decide (hands >= st.2) || left.any fun s => decide (ocF s > ((d + 1 : Nat) : Int))) = true := by
    have : hands >= st.2 := by simp only [decide_eq_true_eq] at g1; omega
    simp [this]
   rw [goP_cut hcut]
   clear hcut hlv hl2 hso hst hnow hx e3 e4 l1 l2 l3 l4 l5 q2 e6 hHn hid hO hen0 ih hOl
   refine ClR.walk (c := _) h91 Tryz.func91 rfl (by kernel_rfl) rfl seR_fail ?_
   try simp only [entryEnv, Nat.reduceAdd, List.nil_append, List.cons_append, emptyHp]
   repeat' (first | refine goS ?_ | (refine go2 ?_ ?_ <;> intro hh) | fail)
   all_goals (simp only [resV_def (X := dX c) Tryz.func91, Tryz.results91]; first | exact J5 | refine J6 ?_)
   exact ⟨_, rfl, HST.out.ext HL.out.1 HL.out.2.2 HX.out, .ext HX.out⟩
  | false =>
   have hn1' : ¬ hands >= st.2 := by simp only [decide_eq_false_iff_not] at g1; omega
   cases g2 : (left.any fun s => decide (ocF s > ((d + 1 : Nat) : Int))) with
   | true =>
    rw [g2] at k92a
    rw [goP_cut (by rw [g2, Bool.or_true])]
    clear hn1' g2 hlv hl2 hso hst hnow hx e3 e4 l1 l2 l3 l4 l5 q2 e6 hHn hid hO hen0 ih hOl
    refine ClR.walk (c := _) h91 Tryz.func91 rfl (by kernel_rfl) rfl seR_fail ?_
    try simp only [entryEnv, Nat.reduceAdd, List.nil_append, List.cons_append, emptyHp]
    repeat' (first | refine goS ?_ | (apply U6; exact Z1; exact Z1; (exact k92a); simp only [pM, pN, rR, rP]) | (refine go2 ?_ ?_ <;> intro hh) | fail)
    all_goals (simp only [resV_def (X := dX c) Tryz.func91, Tryz.results91]; first | exact J5 | refine J6 ?_)
    exact ⟨_, rfl, HST.out.ext HL.out.1 HL.out.2.2 HX.out, .ext HX.out⟩
   | false =>
    rw [g2] at k92a
    rw [goP_step (by rw [g2, Bool.or_false]; simpa using hn1')]
    have hc0 := hst.cell
    have hst1 := hst.ext l1 l3 hx
    have hen1 := hen0.relS hc0 (.ext hx)
    have hnow1 := hnow.relS hc0 (.ext hx)
    have hil : now.length < H := by omega
    obtain ⟨ido, elo, bv, go1, go2, go3, hbv, hlo⟩ := hen1.rows.rd hil
    obtain ⟨obv, lbv, cbv, tbv⟩ := hbv.parts
    have hcell1 := hst1.cell
    have HS1 := J1 hst1
    have HE1 := J1 hen1
    have HN1 := J1 hnow1
    have HL2 := J1 hl2
    have HBV := J1 hbv
    have HCL := J1 hcell1
    have HIH := J1 ih
    have HLL := J1 hll
    have HSO := J1 hso
    have HO' := J1 hO
    have HOL := J1 hOl
    have HHL := J1 hhl
    have HID := J1 hid
    simp only [hp_get] at go1
    simp only [AV.cells] at cbv
    simp only [isTuple] at tbv
    clear hn1' g2 hlv hl2 hso hst hnow hx e3 e4 l1 l2 l3 l4 l5 q2 e6 hHn hid hO hen0 ih hOl hc0 hst1 hen1 hnow1 hil hbv hcell1 hll hhl hlo
    refine ClR.walk (c := _) h91 Tryz.func91 rfl (by kernel_rfl) rfl seR_fail ?_
    try simp only [entryEnv, Nat.reduceAdd, List.nil_append, List.cons_append, emptyHp]
    repeat' (first | refine goS ?_ | (apply U6; exact Z1; exact Z1; (exact k92a); simp only [pM, pN, rR, rP]) | (refine go2 ?_ ?_ <;> intro hh) | fail)
    refine W.label ?_
    simp only [tN, bN]
    repeat' (first | refine goS ?_ | (refine go2 ?_ ?_ <;> intro hh) | fail)
    refine W.loopV ((O now.length).length) [1, 2, 7, 8, 40, 41] [] (fun k e lm hp => e.get 42 = some (.int .i64 ↑k) /\ StS bf bo hp (((O now.length).take k).foldl (fun st p => if fitsP left p = true then goP (C := bzC) (O := O) d (now.length + 1) (now ++ [p]) (takeP left p) (hands + bzC p) st else st) st) /\ RelS bf bo ⟨hn + 1, hm.set hn (.var [nv])⟩ hp) ?_ ?_
    ·skip
     refine ⟨?_, HS1.out, RelS.refl _ _ _⟩
     all_goals first | exact Z2 | (simp [go_sem, *]; done) | skip
    intro k e lm hp hk0 hce hcl hinv
    simp only [keepE, and_true] at hce
    obtain ⟨c1, c2, c7, c8, c40, c41⟩ := hce
    simp only [go_sem, *, Nat.reduceBEq, Nat.reduceEqDiff, reduceIte] at c1 c2 c7 c8 c40 c41
    clear hcl
    obtain ⟨h42, hS, hR⟩ := hinv
    by_cases hlt : k < (O now.length).length
    ·have hd0 : decide ((k : Int) < (((O now.length).length : Nat) : Int)) = true := by first | (simpa using hlt; done) | (simp only [decide_eq_true_eq]; omega)
     have hv_0 := wrap_succ hlt (HOL.out _)
     obtain ⟨p, hpk⟩ := get_some hlt
     have hbv2 := HBV.out.relS HCL.out hR
     obtain ⟨idr, el, pb, r1, r2, r3, r4, r5⟩ := hbv2.rd hpk
     obtain ⟨p1, p2⟩ := HO'.out _ p (List.mem_of_getElem? hpk)
     have hen2 := HE1.out.relS HCL.out hR
     have hnow2 := HN1.out.relS HCL.out hR
     have hlv2 := HL2.out.relS HCL.out hR
     have hl8 : hn < hp.next := Nat.lt_of_lt_of_le (Nat.lt_succ_self hn) hR.next
     have hg8 : hp.get hn = some (.var [nv]) := (hR.same hn (Nat.lt_succ_self hn) (by simpa using b1) (by simpa using b3)).trans (by rw [hget_set, if_pos rfl])
     have hfo : ((O now.length).take (k + 1)).foldl (fun st p => if fitsP left p = true then goP (C := bzC) (O := O) d (now.length + 1) (now ++ [p]) (takeP left p) (hands + bzC p) st else st) st = if fitsP left p = true then goP (C := bzC) (O := O) d (now.length + 1) (now ++ [p]) (takeP left p) (hands + bzC p) (((O now.length).take k).foldl (fun st p => if fitsP left p = true then goP (C := bzC) (O := O) d (now.length + 1) (now ++ [p]) (takeP left p) (hands + bzC p) st else st) st) else ((O now.length).take k).foldl (fun st p => if fitsP left p = true then goP (C := bzC) (O := O) d (now.length + 1) (now ++ [p]) (takeP left p) (hands + bzC p) st else st) st := by rw [take_next hpk, List.foldl_append]; rfl
     obtain ⟨sk, hsk⟩ : ∃ sk, sk = ((O now.length).take k).foldl (fun st p => if fitsP left p = true then goP (C := bzC) (O := O) d (now.length + 1) (now ++ [p]) (takeP left p) (hands + bzC p) st else st) st := ⟨_, rfl⟩
     rw [<- hsk] at hS hfo
     have HFO := J1 hfo
     have HS := J1 hS
     have HR := J1 hR
     refine R91_0 (c := c) h96 h97 h98 h89 _ _ e lm hp nv lv bv pb now left p nn hands hn bf bh bo bw bs k (O now.length).length idr el (goP (C := bzC) (O := O) d (now.length + 1) (now ++ [p]) (takeP left p) (hands + bzC p) sk) hnow2 (by have := HID.out; omega) hlv2 HLL.out hn1 hn4 HSO.out (by have := HHL.out; omega) hlt (HOL.out _) r1 r2 r3 r4 p1 p2 hg8 hl8 hen2.self hen2.lt.2.2.2.2 r5 (fun hf v tv h' hx hr ht => ?_) c1 c2 c7 c8 c40 c41 h42 (fun hf e' lm' h' ke g42 hx => ?_) (fun hf e' lm' h2 ke g42 hs2 hr2 => ?_)
     ·have := HIH.out (now ++ [p]) v tv (takeP left p) (hands + bzC p) _ h' (by rw [List.length_append]; have := HID.out; simp only [List.length_cons, List.length_nil]; omega) hr ht (by rw [takeP_len]; exact HLL.out) (take_ok HSO.out p2 hf) (by have h9 : bzC p <= 1 := by { unfold bzC; split <;> omega }; have := HHL.out; omega) (hS.ext hen2.lt.1 hen2.lt.2.2.1 hx) (hen2.relS hS.cell (.ext hx))
      have e9 : (now ++ [p]).length = now.length + 1 := by simp
      rw [e9] at this
      exact this
     ·have hS3 := hS.ext hen2.lt.1 hen2.lt.2.2.1 hx
      have HS3 := J1 hS3
      have HR3 := J1 (hR.trans (.ext hx))
      have HLT0 := J1 hlt
      have hfo2 := hfo.trans (if_neg (by rw [hf]; simp))
      have HFO2 := J1 hfo2
      clear hS3 hx hS hR hlt hfo hfo2 hsk hbv2 hen2 hnow2 hlv2 hl8 hg8 r1 r2 r3 r4 r5 hpk p1 p2
      simp only [keepE, and_true] at ke
      obtain ⟨k1, k2, k7, k8, k40, k41⟩ := ke
      rw [c1] at k1
      rw [c2] at k2
      rw [c7] at k7
      rw [c8] at k8
      rw [c40] at k40
      rw [c41] at k41
      clear c1 c2 c7 c8 c40 c41 h42
      all_goals refine contV_mk J9 J7 J8 ?_
      all_goals refine ⟨?_, ?_, HR3.out⟩
      all_goals first | exact Z2 | skip
      all_goals first | (rw [HFO2.out]; exact HS3.out) | skip
     ·have HS3 := J1 hs2
      have HR3 := J1 (hR.trans hr2)
      have HLT0 := J1 hlt
      have hfo2 := hfo.trans (if_pos hf)
      have HFO2 := J1 hfo2
      clear hs2 hr2 hS hR hlt hfo hfo2 hsk hbv2 hen2 hnow2 hlv2 hl8 hg8 r1 r2 r3 r4 r5 hpk p1 p2
      simp only [keepE, and_true] at ke
      obtain ⟨k1, k2, k7, k8, k40, k41⟩ := ke
      rw [c1] at k1
      rw [c2] at k2
      rw [c7] at k7
      rw [c8] at k8
      rw [c40] at k40
      rw [c41] at k41
      clear c1 c2 c7 c8 c40 c41 h42
      all_goals refine contV_mk J9 J7 J8 ?_
      all_goals refine ⟨?_, ?_, HR3.out⟩
      all_goals first | exact Z2 | skip
      all_goals first | (rw [HFO2.out]; exact HS3.out) | skip
    ·have hd0 : decide ((k : Int) < (((O now.length).length : Nat) : Int)) = false := by first | (simpa using hlt; done) | (simp only [decide_eq_false_iff_not]; omega)
     obtain rfl : k = (O now.length).length := by omega
     rw [List.take_length] at hS
     have HS := J1 hS
     have HR := J1 ((RelS.ext HX.out).trans hR)
     clear hS hR hlt
     repeat' (first | refine goS ?_ | (refine go2 ?_ ?_ <;> intro hh) | fail)
     simp only [eN, true_and]
     all_goals (simp only [resV_def (X := dX c) Tryz.func91, Tryz.results91]; first | exact J5 | refine J6 ?_)
     exact ⟨_, rfl, HS.out, HR.out⟩
end
end Go.AM
namespace Go.AM
open Go Go.Proofs
variable [Keep]
attribute [local irreducible] W WO WO1 WD WQ WT thenQ blockQ endR isRet retK Cl ClR
open Go.TX (Rm Fa Ha Hs)
def suitO (op : List Int) (q : List Int) (r : Int) : Bool := decide (op.length <= q.length) || fitF (op.getD q.length 0) r
theorem fits_snoc : ∀ {l q : List Int} {r : Int}, fitsP l q = true -> fitF (l.getD q.length 0) r = true \/ l.length <= q.length -> fitsP l (q ++ [r]) = true
 | [], q, r, _, _ => by
  rw [fitsP]
  intro s l a p h
  cases h
 | s :: l, [], r, _, h => by
  rcases h with h | h
  ·rw [List.nil_append, fitsP, Bool.and_eq_true]
   refine ⟨by simpa using h, ?_⟩
   cases l <;> rfl
  ·simp at h
 | s :: l, a :: q, r, hf, h => by
  rw [fitsP, Bool.and_eq_true] at hf
  rw [List.cons_append, fitsP, Bool.and_eq_true]
  refine ⟨hf.1, fits_snoc hf.2 ?_⟩
  rcases h with h | h
  ·left; simpa using h
  ·right; simpa using h
theorem paths_fit {op : List Int} {rl : Nat} : ∀ {d : Nat} {q p : List Int}, fitsP op q = true -> p ∈ pathsL (suitO op) rl d q -> fitsP op p = true
 | 0, q, p, hq, h => by
  rw [pathsL, List.mem_singleton] at h
  rw [h]; exact hq
 | d + 1, q, p, hq, h => by
  rw [pathsL, List.mem_flatMap] at h
  obtain ⟨i, _, h⟩ := h
  split at h
  ·rename_i hs
   refine paths_fit (fits_snoc hq ?_) h
   unfold suitO at hs
   rw [Bool.or_eq_true, decide_eq_true_eq] at hs
   rcases hs with hs | hs
   ·exact .inr hs
   ·exact .inl hs
  ·cases h
theorem paths_fits (op : List Int) (rl n : Nat) : pathsL (suitO op) rl n [] = (allP rl n).filter fun p => fitsP op p := by
 have h1 : (pathsL (suitO op) rl n []).filter (fun p => fitsP op p) = pathsL (suitO op) rl n [] := List.filter_eq_self.2 fun p hp => paths_fit (by cases op <;> rfl) hp
 rw [<- h1, paths_filter (P := fun p => fitsP op p) (fun q l r _ _ hP => ?_), paths_top]
 unfold suitO
 rw [Bool.or_eq_true, decide_eq_true_eq]
 by_cases e : op.length <= q.length
 ·exact .inl e
 ·right
  obtain ⟨s, hs⟩ := get_some (l := op) (k := q.length) (by omega)
  have := fits_at hP (k := q.length) (r := r) (by simp) hs
  simpa [List.getD, hs] using this
def ownS (kp : Nat -> List Int -> Bool) (p : List Int) (O : Nat -> List (List Int)) : (Nat -> List (List Int)) × Bool := (fun i => if kp i p = true then O i ++ [p] else O i, true)
theorem own_fold (kp : Nat -> List Int -> Bool) : ∀ (ps : List (List Int)) (O : Nat -> List (List Int)), foldS (ownS kp) ps O = (fun i => O i ++ ps.filter (kp i), true)
 | [], O => by
  simp only [foldS, List.filter_nil, List.append_nil]
 | p :: ps, O => by
  have e : ownS kp p O = (fun i => if kp i p = true then O i ++ [p] else O i, true) := rfl
  simp only [foldS, e]
  rw [own_fold kp ps, if_pos trivial]
  congr 1
  funext i
  rw [List.filter_cons]
  split <;> simp
theorem kp_same {m : Hs} {i : Nat} {p : List Int} (h1 : p.length <= 1000) (h2 : ∀ x ∈ p, -1 <= x) : (decide (workedL p <= mostAt m i) && decide ((airS m p).2 <= limAt m i)) = kpB m i p := by
 unfold kpB
 rw [worked_busy h1 h2]
 congr 1
 ·rw [Bool.eq_iff_iff]
  simp only [decide_eq_true_eq, Bool.not_eq_true', decide_eq_false_iff_not]
  omega
 ·rw [Bool.eq_iff_iff]
  simp only [decide_eq_true_eq, Bool.not_eq_true', decide_eq_false_iff_not]
  omega
end Go.AM
