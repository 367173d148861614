/-
  A part of the proof: contracts of functions.
-/
import Derived.Test.YtgihdicidaipmaaGreatDoorRAN
import Derived.Test.YtgihdicidaipmaaGreatDoorRAU
import Derived.Test.YtgihdicidaipmaaGreatDoorRAP
import Derived.Test.YtgihdicidaipmaaGreatDoorRAF
import Derived.Test.YtgihdicidaipmaaGreatDoorRAO
set_option linter.unusedSectionVars false
set_option linter.unusedVariables false
set_option linter.unusedSimpArgs false
set_option maxRecDepth 100000
set_option maxHeartbeats 16000000
namespace Go.AM
open Go Go.Proofs
variable [Keep]
attribute [local irreducible] W WO WO1 WD WQ WT thenQ blockQ endR isRet retK Cl ClR
section
attribute [local irreducible] goneB
def sp49 : List AV -> Option AV
 | [a, ga] => (bkV a).bind fun b => (slV intC ga).map fun gone => .bool (goneB b.moulds.length gone)
 | _ => none
section
variable {c : Itr}
end
attribute [local irreducible] bfrB
def sp52 : List AV -> Option AV
 | [a, b] => (slV intC a).bind fun l => (slV intC b).map fun r => .bool (bfrB l r)
 | _ => none
section
variable {c : Itr}
end
def shortM (d : Md) : Bool := !(decide ((d.marks.length : Int) > 6) || decide ((d.loans.length : Int) > 5))
def shortB (b : Bk) : Bool := (b.moulds.take 8).all shortM && decide ((b.moulds.length : Int) <= 7)
theorem all_at {α : Type} {p : α -> Bool} {l : List α} {k : Nat} {x : α} (h : l[k]? = some x) (ha : (l.take k).all p = true) : (l.take (k + 1)).all p = p x := by rw [take_next h, List.all_append, ha]; simp
theorem short_no {b : Bk} {k : Nat} {d : Md} (hd : b.moulds[k]? = some d) (hk : k < 8) (h : shortM d = false) : shortB b = false := by
 unfold shortB
 have : (b.moulds.take 8).all shortM = false := by
  rw [List.all_eq_false]
  exact ⟨d, List.mem_of_getElem? (i := k) (by rw [List.getElem?_take, if_pos hk]; exact hd), by rw [h]; decide⟩
 rw [this, Bool.false_and]
section
variable {c : Itr}
end
end
section
def MdsI (sa : AV) (l : List Md) : Prop := ∃ es : List AV, isSl sa es /\ es.length = l.length /\ ∀ (k : Nat) (d : Md), l[k]? = some d -> ∃ ma la, es[k]? = some (.agg [.int .i64 d.parent, .int .i64 d.clo, .int .i64 d.chi, ma, la]) /\ isSl ma (d.marks.map mkC.enc) /\ isSl la (d.loans.map lnC.enc)
theorem MdsI.out {sa : AV} {l : List Md} (q : MdsI sa l) : outV (some sa) = some sa := by
 obtain ⟨es, h1, _⟩ := q
 exact h1.out
theorem MdsI.len {sa : AV} {l : List Md} (q : MdsI sa l) : lenS sa = some l.length := by
 obtain ⟨es, h1, h2, _⟩ := q
 rw [h1.len, h2]
theorem MdsI.elem {sa : AV} {l : List Md} (q : MdsI sa l) {k : Nat} {d : Md} (hd : l[k]? = some d) : ∃ ma la, isSl ma (d.marks.map mkC.enc) /\ isSl la (d.loans.map lnC.enc) /\ ∀ H, indexAddrV Tryz.prog H 22 sa (.int .i64 (k : Int)) = some (.vptr [.int .i64 d.parent, .int .i64 d.clo, .int .i64 d.chi, ma, la]) := by
 obtain ⟨es, h1, h2, h3⟩ := q
 obtain ⟨ma, la, h4, h5, h6⟩ := h3 k d hd
 have e1 := h5.cells
 have e2 := h6.cells
 exact ⟨ma, la, h5, h6, fun H => h1.idx (P := Tryz.prog) (hp := H) (t := 22) (k := k) Tryz.underlying22 ty_lay76 h4 rfl⟩
theorem mm_of : ∀ (es : List AV) (l : List Md), es.length = l.length -> (∀ (k : Nat) (d : Md), l[k]? = some d -> ∃ ma la, es[k]? = some (.agg [.int .i64 d.parent, .int .i64 d.clo, .int .i64 d.chi, ma, la]) /\ slV mkC ma = some d.marks /\ slV lnC la = some d.loans) ->
  ∃ q : List MM, es = q.map mmC.enc /\ q.all MM.ok = true /\ q.map MM.md = l
 | [], [], _, _ => ⟨[], rfl, rfl, rfl⟩
 | [], _ :: _, h, _ => by simp at h
 | _ :: _, [], h, _ => by simp at h
 | e :: es, d :: l, h, hi => by
  obtain ⟨ma, la, h1, h2, h3⟩ := hi 0 d rfl
  simp only [List.getElem?_cons_zero, Option.some.injEq] at h1
  subst h1
  obtain ⟨q, e1, e2, e3⟩ := mm_of es l (by simpa using h) fun k x hx => by
   have := hi (k + 1) x (by simpa using hx)
   simpa using this
  have hok : (MM.mk d.parent d.clo d.chi ma la ⟨sl_pur h2, sl_pur h3⟩).ok = true := by unfold MM.ok; rw [h2, h3]; rfl
  have hmd : (MM.mk d.parent d.clo d.chi ma la ⟨sl_pur h2, sl_pur h3⟩).md = d := by unfold MM.md; rw [h2, h3]; rfl
  refine ⟨⟨d.parent, d.clo, d.chi, ma, la, sl_pur h2, sl_pur h3⟩ :: q, by rw [e1]; rfl, ?_, ?_⟩
  ·rw [List.all_cons, hok, e2]; rfl
  ·rw [List.map_cons, hmd, e3]
theorem short_parts {b : Bk} (h : shortB b = true) : b.moulds.length <= 7 /\ ∀ (k : Nat) (d : Md), b.moulds[k]? = some d -> d.marks.length <= 6 /\ d.loans.length <= 5 := by
 unfold shortB at h
 rw [Bool.and_eq_true, decide_eq_true_eq, List.all_eq_true] at h
 obtain ⟨h1, h2⟩ := h
 have hl : b.moulds.length <= 7 := by omega
 refine ⟨hl, fun k d hd => ?_⟩
 rw [List.take_of_length_le (by omega)] at h1
 have := h1 d (List.mem_of_getElem? hd)
 unfold shortM at this
 simp only [Bool.not_eq_true', Bool.or_eq_false_iff, decide_eq_false_iff_not] at this
 omega
theorem short_bk {b : Bk} {sa : AV} (q : MdsI sa b.moulds) (h : shortB b = true) : bkV (.agg [.int .i64 b.miss, .int .i64 b.ghost, sa]) = some b := by
 obtain ⟨h1, h2⟩ := short_parts h
 obtain ⟨es, q1, q2, q3⟩ := q
 obtain ⟨l, e1, e2, e3⟩ := mm_of es b.moulds q2 fun k d hd => by
  obtain ⟨ma, la, g1, g2, g3⟩ := q3 k d hd
  have := h2 k d hd
  exact ⟨ma, la, g1, slV_mk g2 (by unfold maxL; omega), slV_mk g3 (by unfold maxL; omega)⟩
 have hs : slV mmC sa = some l := slV_mk (by rw [<- e1]; exact q1) (by rw [<- List.length_map (f := mmC.enc), <- e1, q2]; unfold maxL; omega)
 simp only [bkV, hs, e2, if_true, e3]
section
variable {c : Itr}
theorem C20I (hc : c 20 = none) (b : Bk) (sa : AV) (hm : MdsI sa b.moulds) (h : Heap) :
  Cl (dX c) 20 [.agg [.int .i64 b.miss, .int .i64 b.ghost, sa]] h (.ret (.bool (shortB b)) h none) := by
 refine ClR.cl ?_
 have os := hm.out
 have hlen := hm.len
 have HM := J1 hm
 have hmin : min b.moulds.length 8 <= 8 := Nat.min_le_right _ _
 have hmin2 : min b.moulds.length 8 <= b.moulds.length := Nat.min_le_left _ _
 clear hm
 refine wK hc Tryz.func20 rfl (fun e => by cases e) ?_
 repeat' (first | refine goS ?_ | (refine go2 ?_ ?_ <;> intro hh) | fail)
 refine W.loopH (min b.moulds.length 8) [1] [1] (fun k e lm => e.get 3 = some (.int .i64 ↑k) /\ (b.moulds.take k).all shortM = true) ?_ ?_
 ·refine ⟨?_, ?_⟩ <;> first | exact Z2 | rfl | assumption | (simp [go_sem, *]; done)
 intro k e lm hk0 hce hcl hinv
 simp only [keepE, and_true] at hce
 have c1 := hce
 clear hce
 simp only [go_sem, *, Nat.reduceBEq, Nat.reduceEqDiff, reduceIte] at c1
 simp only [keepL, and_true] at hcl
 have d1 := hcl
 clear hcl
 simp only [go_sem, *, Nat.reduceBEq, Nat.reduceEqDiff, reduceIte] at d1
 obtain ⟨h3, hal⟩ := hinv
 by_cases hlt : k < min b.moulds.length 8
 ·have hd0 := dT hlt
  have hv_0 := wrap_succ hlt (by unfold maxL; omega)
  obtain ⟨d, hd⟩ := get_some (l := b.moulds) (k := k) (by omega)
  obtain ⟨ma, la, v1, v2, hix⟩ := HM.out.elem hd
  have om := v1.out
  have ol := v2.out
  have lm := v1.len
  rw [List.length_map] at lm
  have ll := v2.len
  rw [List.length_map] at ll
  have hnx := all_at hd hal
  have he1 : decide ((k : Int) < (b.moulds.length : Int)) = true := by simp only [decide_eq_true_eq]; omega
  have he2 : decide ((k : Int) < 8) = true := by simp only [decide_eq_true_eq]; omega
  have hk8 : k < 8 := by omega
  have HNX := J1 hnx
  have HD := J1 hd
  have HLT0 := J1 hlt
  have HK8 := J1 hk8
  have hsm : shortM d = !(decide ((d.marks.length : Int) > 6) || decide ((d.loans.length : Int) > 5)) := rfl
  clear v1 v2 hd hnx hal hk8 hlt
  cases h1 : decide ((d.marks.length : Int) > 6) with
  | true =>
   rw [h1] at hsm
   have hno := short_no HD.out HK8.out hsm
   rw [hno]
   clear hno hsm
   repeat' (first | refine goS ?_ | (refine go2 ?_ ?_ <;> intro hh) | fail)
   all_goals (simp only [rV Tryz.func20, Tryz.results20]; first | exact J5 | refine J6 ?_)
   all_goals rfl
  | false =>
   cases h2 : decide ((d.loans.length : Int) > 5) with
   | true =>
    rw [h1, h2] at hsm
    have hno := short_no HD.out HK8.out hsm
    rw [hno]
    clear hno hsm
    repeat' (first | refine goS ?_ | (refine go2 ?_ ?_ <;> intro hh) | fail)
    all_goals (simp only [rV Tryz.func20, Tryz.results20]; first | exact J5 | refine J6 ?_)
    all_goals rfl
   | false =>
    rw [h1, h2] at hsm
    have HS := J1 hsm
    clear hsm
    repeat' (first | refine goS ?_ | (refine go2 ?_ ?_ <;> intro hh) | fail)
    all_goals refine contH_mk J9 J7 J8 ?_
    all_goals refine ⟨?_, ?_⟩
    all_goals first | exact Z2 | skip
    all_goals exact HNX.out.trans HS.out
 ·have hd0 := dF hlt
  obtain rfl : k = min b.moulds.length 8 := by omega
  have hS : shortB b = decide ((b.moulds.length : Int) <= 7) := by
   unfold shortB
   by_cases h8 : b.moulds.length <= 8
   ·have e1 : b.moulds.take (min b.moulds.length 8) = b.moulds := List.take_of_length_le (by omega)
    rw [e1] at hal
    rw [List.take_of_length_le h8, hal, Bool.true_and]
   ·have e1 : min b.moulds.length 8 = 8 := by omega
    rw [e1] at hal
    rw [hal, Bool.true_and]
  rw [hS]
  clear hal hS
  by_cases h8 : b.moulds.length <= 8
  ·have e1 : min b.moulds.length 8 = b.moulds.length := by omega
   have he1 : decide ((↑(min b.moulds.length 8) : Int) < (b.moulds.length : Int)) = false := by rw [e1]; simp
   clear e1
   repeat' (first | refine goS ?_ | (refine go2 ?_ ?_ <;> intro hh) | fail)
   all_goals (simp only [rV Tryz.func20, Tryz.results20]; first | exact J5 | refine J6 ?_)
   all_goals rfl
  ·have e1 : min b.moulds.length 8 = 8 := by omega
   have he1 : decide ((↑(min b.moulds.length 8) : Int) < (b.moulds.length : Int)) = true := by simp only [decide_eq_true_eq]; omega
   have he2 : decide ((↑(min b.moulds.length 8) : Int) < 8) = false := by simp only [decide_eq_false_iff_not]; omega
   clear e1
   repeat' (first | refine goS ?_ | (refine go2 ?_ ?_ <;> intro hh) | fail)
   all_goals (simp only [rV Tryz.func20, Tryz.results20]; first | exact J5 | refine J6 ?_)
   all_goals rfl
end
end
end Go.AM
namespace Go.AM
open Go Go.Proofs
variable [Keep]
theorem ClR.gives {X : Ctx} {f : FuncId} {args : List AV} {h : Heap} {v : AV} (c : ClR X f args h (isRet v)) : ∃ h', Cl X f args h (.ret v h' none) := by
 unfold ClR at c
 obtain ⟨r, ⟨n, hn⟩, q⟩ := c
 cases r with
 | ret u h' up =>
  cases up with
  | none => rw [isRet_ret] at q; subst q; exact ⟨h', n, hn⟩
  | some p => exact absurd q (by simp [isRet])
 | pan u h' up => exact absurd q (by simp [isRet])
 | fail => exact absurd q (by simp [isRet])
theorem Sh.i64 {n : Nat} {xs : List AV} (h : Sh Tryz.prog (n + 1) 3 xs) : ∃ i, xs = [.int .i64 i] := by
 obtain ⟨i, h, _⟩ := Sh.int Tryz.underlying3 h
 exact ⟨i, h⟩
theorem ag3 : isAggT Tryz.prog 3 = false := by simp [isAggT, Tryz.underlying3]
theorem ag24 : isAggT Tryz.prog 24 = true := by simp [isAggT, Tryz.underlying24]
theorem ag76 : isAggT Tryz.prog 76 = true := by simp [isAggT, Tryz.underlying76]
theorem ag100 : isAggT Tryz.prog 100 = true := by simp [isAggT, Tryz.underlying100]
theorem ag123 : isAggT Tryz.prog 123 = true := by simp [isAggT, Tryz.underlying123]
theorem Sh.span {n : Nat} {xs : List AV} (h : Sh Tryz.prog (n + 2) 45 xs) : ∃ p q : Int, xs = [.int .i64 p, .int .i64 q] := by
 obtain ⟨x1, y1, rfl, h1, x2, y2, rfl, h2, rfl⟩ := Sh.struct Tryz.underlying45 h
 obtain ⟨a, rfl⟩ := Sh.i64 h1
 obtain ⟨b, rfl⟩ := Sh.i64 h2
 exact ⟨a, b, rfl⟩
theorem Sh.mk {n : Nat} {xs : List AV} (h : Sh Tryz.prog (n + 3) 123 xs) : ∃ p : Mk, xs = [.int .i64 p.spot, .int .i64 p.lo, .int .i64 p.hi] := by
 obtain ⟨x1, y1, rfl, h1, x2, y2, rfl, h2, rfl⟩ := Sh.struct Tryz.underlying123 h
 obtain ⟨a, rfl⟩ := Sh.i64 h1
 obtain ⟨p, q, rfl⟩ := Sh.span h2
 exact ⟨⟨a, p, q⟩, rfl⟩
theorem Sh.ln {n : Nat} {xs : List AV} (h : Sh Tryz.prog (n + 3) 100 xs) : ∃ p : Ln, xs = [.int .i64 p.house, .int .i64 p.slo, .int .i64 p.shi, .int .i64 p.flo, .int .i64 p.fhi] := by
 obtain ⟨x1, y1, rfl, h1, x2, y2, rfl, h2, x3, y3, rfl, h3, rfl⟩ := Sh.struct Tryz.underlying100 h
 obtain ⟨a, rfl⟩ := Sh.i64 h1
 obtain ⟨p, q, rfl⟩ := Sh.span h2
 obtain ⟨u, w, rfl⟩ := Sh.span h3
 exact ⟨⟨a, p, q, u, w⟩, rfl⟩
theorem Sh.mks {n : Nat} {xs : List AV} (h : Sh Tryz.prog (n + 4) 73 xs) : ∃ (a : AV) (l : List Mk), xs = [a] /\ isSl a (l.map mkC.enc) :=
 Sh.slice mkC Tryz.underlying73 (fun xs h => by
  obtain ⟨p, rfl⟩ := Sh.mk h
  exact ⟨p, by rw [ag123]; rfl⟩) h
theorem Sh.lns {n : Nat} {xs : List AV} (h : Sh Tryz.prog (n + 4) 74 xs) : ∃ (a : AV) (l : List Ln), xs = [a] /\ isSl a (l.map lnC.enc) :=
 Sh.slice lnC Tryz.underlying74 (fun xs h => by
  obtain ⟨p, rfl⟩ := Sh.ln h
  exact ⟨p, by rw [ag100]; rfl⟩) h
theorem Sh.md {n : Nat} {xs : List AV} (h : Sh Tryz.prog (n + 5) 76 xs) : ∃ (d : Md) (ma la : AV), xs = [.int .i64 d.parent, .int .i64 d.clo, .int .i64 d.chi, ma, la] /\ isSl ma (d.marks.map mkC.enc) /\ isSl la (d.loans.map lnC.enc) := by
 obtain ⟨x1, y1, rfl, h1, x2, y2, rfl, h2, x3, y3, rfl, h3, x4, y4, rfl, h4, rfl⟩ := Sh.struct Tryz.underlying76 h
 obtain ⟨a, rfl⟩ := Sh.i64 h1
 obtain ⟨p, q, rfl⟩ := Sh.span h2
 obtain ⟨ma, ms, rfl, q1⟩ := Sh.mks h3
 obtain ⟨la, ls, rfl, q2⟩ := Sh.lns h4
 exact ⟨⟨a, p, q, ms, ls⟩, ma, la, rfl, q1, q2⟩
theorem mdsI_of : ∀ (es : List AV), (∀ x ∈ es, ∃ (d : Md) (ma la : AV), x = .agg [.int .i64 d.parent, .int .i64 d.clo, .int .i64 d.chi, ma, la] /\ isSl ma (d.marks.map mkC.enc) /\ isSl la (d.loans.map lnC.enc)) ->
  ∃ l : List Md, es.length = l.length /\ ∀ (k : Nat) (d : Md), l[k]? = some d -> ∃ ma la, es[k]? = some (.agg [.int .i64 d.parent, .int .i64 d.clo, .int .i64 d.chi, ma, la]) /\ isSl ma (d.marks.map mkC.enc) /\ isSl la (d.loans.map lnC.enc)
 | [], _ => ⟨[], rfl, fun k d h => by simp at h⟩
 | x :: es, h => by
  obtain ⟨d0, ma, la, rfl, q1, q2⟩ := h x (by simp)
  obtain ⟨l, g1, g2⟩ := mdsI_of es fun y hy => h y (by simp [hy])
  refine ⟨d0 :: l, by simp [g1], fun k d hk => ?_⟩
  cases k with
  | zero => simp at hk; subst hk; exact ⟨ma, la, rfl, q1, q2⟩
  | succ k => simp at hk; simpa using g2 k d hk
theorem Sh.mds {n : Nat} {xs : List AV} (h : Sh Tryz.prog (n + 6) 22 xs) : ∃ (a : AV) (l : List Md), xs = [a] /\ MdsI a l := by
 unfold Sh at h
 rw [Tryz.underlying22] at h
 obtain ⟨a, es, rfl, h1, _, h3⟩ := h
 obtain ⟨l, g1, g2⟩ := mdsI_of es fun x hx => by
  obtain ⟨ys, k1, k2⟩ := h3 x hx
  obtain ⟨d, ma, la, rfl, q1, q2⟩ := Sh.md k2
  exact ⟨d, ma, la, by rw [k1, ag76]; rfl, q1, q2⟩
 exact ⟨a, l, rfl, es, h1, g1, g2⟩
theorem Sh.book {n : Nat} {xs : List AV} (h : Sh Tryz.prog (n + 7) 24 xs) : ∃ (sa : AV) (b : Bk), xs = [.int .i64 b.miss, .int .i64 b.ghost, sa] /\ MdsI sa b.moulds := by
 obtain ⟨x1, y1, rfl, h1, x2, y2, rfl, h2, x3, y3, rfl, h3, rfl⟩ := Sh.struct Tryz.underlying24 h
 obtain ⟨a, rfl⟩ := Sh.i64 h1
 obtain ⟨g, rfl⟩ := Sh.i64 h2
 obtain ⟨sa, l, rfl, q⟩ := Sh.mds h3
 exact ⟨sa, ⟨a, g, l⟩, rfl, q⟩
attribute [local irreducible] W WO WO1 WD WQ WT thenQ blockQ endR isRet retK Cl ClR
attribute [local irreducible] natsE
theorem rw_idx {H : Heap} {id k : Nat} {l : List AV} {x : AV} (hg : H.get id = some (.rw 1 l)) (hx : l[k]? = some x) : indexAddrV Tryz.prog H 36 (.row id 0 l.length) (.int .i64 ↑k) = some (.eptr id 1 k 0) :=
 row_idx (t := 36) (e := 3) Tryz.underlying36 ty_lay3 hg (List.getElem?_eq_some_iff.1 hx).1
theorem bltN_at {b : Nat} {h : Heap} {v : AV} {l : List AV} (q : BltN b h v 1 l) {k : Nat} {x : AV} (hx : l[k]? = some x) : ∃ id, v = .row id 0 l.length /\ h.get id = some (.rw 1 l) /\ b <= id /\ id < h.next := by
 refine q.row ?_
 rintro rfl
 simp at hx
theorem nats_at {l : List Nat} {k j : Nat} (h : l[k]? = some j) : (natsE l)[k]? = some (.int .i64 (j : Int)) := by
 unfold natsE
 rw [List.getElem?_map, h]
 rfl
theorem BltN.base {b b' : Nat} {h : Heap} {v : AV} {sz : Nat} {l : List AV} (q : BltN b h v sz l) (hb : b' <= b) : BltN b' h v sz l := by
 rcases q with q | ⟨id, h1, h2, h3, h4⟩
 ·exact .inl q
 ·exact .inr ⟨id, h1, h2, Nat.le_trans hb h3, h4⟩
section
variable {c : Itr}
theorem C144 (hc : c 144 = none) (mi gh : Int) (sa : AV) (l : List Md) (hm : MdsV sa l) (n : Nat) (wf : WfP l n) (hl : n <= l.length) (m : Int) (h1 : -1 <= m) (h3 : m < n) (h : Heap) :
  ClR (dX c) 144 [.agg [.int .i64 mi, .int .i64 gh, sa], .int .i64 m] h (rowR (natsE (chn l m)) h) := by
 have os := hm.out
 have hmx := hm.max
 have hch := chn_at wf hl h1 h3
 have HM := J1 hm
 have HCH := J1 hch
 have h0 : natsE ((chn l m).take 0) = [] := by unfold natsE; rfl
 have H0 := J1 h0
 have hc0 : curM l m 0 = m := by unfold curM; rfl
 have HC0 := J1 hc0
 have hln := hch.2.2
 have HLN := J1 hln
 have hkl : ∀ k, k < (chn l m).length -> (curM l m k).toNat < l.length := fun k hk => by
  have := hch.1 k hk
  omega
 have HKL := J1 hkl
 clear hm hch h0 hc0 hln hkl
 refine wK hc Tryz.func144 rfl rowR_fail ?_
 repeat' (first | refine goS ?_ | (refine go2 ?_ ?_ <;> intro hh) | fail)
 refine W.loopV ((chn l m).length) [2] [2] (fun k e lm hp => ∃ u, e.get 6 = some (.int .i64 (curM l m k)) /\ e.get 5 = some (u) /\ BltN h.next hp u 1 (natsE ((chn l m).take k)) /\ HExt h hp) ?_ ?_
 ·skip
  refine ⟨.nilslice, ?_, ?_, ?_, HExt.refl _⟩
  ·rw [HC0.out]; simp [go_sem, *]
  ·simp [go_sem, *]
  ·rw [H0.out]; exact BltN.nil
 intro k e lm hp hk0 hce hcl hinv
 simp only [keepE, and_true] at hce
 have c2 := hce
 clear hce
 simp only [go_sem, *, Nat.reduceBEq, Nat.reduceEqDiff, reduceIte] at c2
 simp only [keepL, and_true] at hcl
 have d2 := hcl
 clear hcl
 simp only [go_sem, *, Nat.reduceBEq, Nat.reduceEqDiff, reduceIte] at d2
 obtain ⟨u, h6, h5, hB, hX⟩ := hinv
 by_cases hlt : k < (chn l m).length
 ·have hd0 := dT hlt
  have hv_0 := wrap_succ hlt (by have := HLN.out; unfold maxL at *; omega)
  obtain ⟨q1, q2, q3, q4⟩ := HCH.out.1 k hlt
  have hkl := HKL.out k hlt
  obtain ⟨d, hdd⟩ := get_some (l := l) (k := (curM l m k).toNat) hkl
  obtain ⟨ma, la, v1, v2, hix⟩ := HM.out.elem _ _ hdd
  have hcn : ((curM l m k).toNat : Int) = curM l m k := by omega
  rw [hcn] at hix
  have hge : decide (curM l m k >= 0) = true := by simpa using q2
  have om := sl_out v1
  have ol := sl_out v2
  have hup : curM l m (k + 1) = d.parent := by
   rw [curM_succ]; unfold upM; rw [hdd]
  have hbo1 := hB.blt.out
  have hll : (natsE ((chn l m).take k)).length + 1 <= most := by
   rw [natsE_len, List.length_take]; have := HLN.out; unfold most; unfold maxL at hmx; omega
  have hnx : natsE ((chn l m).take (k + 1)) = natsE ((chn l m).take k) ++ [.int .i64 (curM l m k)] := by
   rw [take_next q1]
   unfold natsE
   rw [List.map_append]
   simp only [List.map_cons, List.map_nil, hcn]
  have HNX := J1 hnx
  have HUP := J1 hup
  have HLT0 := J1 hlt
  clear v1 v2 hdd q1 q2 q3 q4 hup hnx hlt hcn hkl
  generalize hcu : curM l m k = cu at *
  repeat' (first | (apply WO1.appendN (t := 36) (u := 36) (e := 3) (e' := 3) (sz := 1) (tl := []) (hb := hB) (hx := HExt.pair hX); exact Z1; exact rfl; exact Z2; exact Z2; exact Z2; (focus (exact ty_row36)); exact Z1; (focus (intro v hv; simp at hv; subst hv; first | rfl | exact hsc)); (focus (simp only [List.length_map, List.length_cons, List.length_nil]; exact hll)); (focus (simp)); (intro v' h' hB' ho' hX'; have hcc' := hB'.blt.cells; have htt' := hB'.blt.tup; simp only [AV.cells] at hcc'; simp only [isTuple] at htt'; simp only [pM, pN])) | refine go1 ?_ | (refine go2 ?_ ?_ <;> intro hh) | fail)
  all_goals refine contV_mk J9 J7 J8 ?_
  all_goals refine ⟨v', ?_, ?_, ?_, hX'⟩
  all_goals first | exact Z2 | skip
  ·rw [HUP.out]; simp only [go_sem, *, Nat.reduceLT, Int.reduceEq, Int.reduceBEq, Int.reduceLE, Int.reduceLT, Nat.reduceAdd, Nat.reduceBEq, Nat.reduceEqDiff, reduceIte, Nat.reduceLeDiff, Nat.reduceMul, Nat.reduceSub, reduceCtorEq]
  ·rw [HNX.out]; exact hB'
 ·have hd0 := dF hlt
  obtain rfl : k = (chn l m).length := by omega
  have hlt0 := HCH.out.2.1
  have hge : decide (curM l m (chn l m).length >= 0) = false := by simp only [decide_eq_false_iff_not]; omega
  have hbo1 := hB.blt.out
  rw [List.take_length] at hB
  have HX := J1 hX
  have HB := J1 hB
  clear hB hX hlt0
  generalize hcu : curM l m (chn l m).length = cu at *
  repeat' (first | refine goS ?_ | (refine go2 ?_ ?_ <;> intro hh) | fail)
  all_goals (simp only [rV Tryz.func144, Tryz.results144]; first | exact J5 | refine J6 ?_)
  exact ⟨_, _, HX.out, rfl, HB.out⟩
def spotL (q : List (Nat × Mk)) : List AV := intsE (q.map fun jx => jx.2.spot)
theorem spotL_len (q : List (Nat × Mk)) : (spotL q).length = q.length := by unfold spotL; rw [intsE_len, List.length_map]
theorem spotL_app (q : List (Nat × Mk)) (j : Nat) (x : Mk) : spotL (q ++ [(j, x)]) = spotL q ++ [.int .i64 x.spot] := by
 unfold spotL
 rw [List.map_append, List.map_cons, List.map_nil, intsE_app]
attribute [local irreducible] spotL lineP lineQ lineM
theorem C109 (hc : c 109 = none) (hc2 : c 144 = none) (mi gh : Int) (sa : AV) (l : List Md) (hm : MdsV sa l) (n : Nat) (wf : WfP l n) (hl : n <= l.length) (m : Int) (h1 : -1 <= m) (h3 : m < n) (hb : (lineM l m).length <= 100000) (h : Heap) :
  ClR (dX c) 109 [.agg [.int .i64 mi, .int .i64 gh, sa], .int .i64 m] h (rowR (spotL (lineM l m)) h) := by
 have os := hm.out
 have hmx := hm.max
 have hch := chn_at wf hl h1 h3
 have HM := J1 hm
 have HCH := J1 hch
 have HBD := J1 hb
 have HLN := J1 hch.2.2
 have k144 := C144 hc2 mi gh sa l hm n wf hl m h1 h3 h
 unfold ClR at k144
 obtain ⟨r, k144, ⟨bn, bm⟩, lv, hx1, rfl, hb1⟩ := k144
 have lc := hb1.blt.cells
 have lt := hb1.blt.tup
 have lo := hb1.blt.out
 have ll := hb1.blt.len
 rw [natsE_len] at ll
 simp only [AV.cells] at lc
 simp only [isTuple] at lt
 have HB1 := J1 hb1
 have HX1 := J1 hx1
 have h0 : spotL (lineP l m 0) = [] := by unfold lineP spotL; rfl
 have H0 := J1 h0
 have hkl : ∀ k, k < (chn l m).length -> (curM l m k).toNat < l.length := fun k hk => by
  have := hch.1 k hk
  omega
 have HKL := J1 hkl
 clear hm hch h0 hb hkl hb1 hx1
 refine wK hc Tryz.func109 rfl rowR_fail ?_
 repeat' (first | refine goS ?_ | refine uJ k144 ?_ | (refine go2 ?_ ?_ <;> intro hh) | fail)
 refine W.loopV ((chn l m).length) [2, 6] [2] (fun k e lm hp => ∃ u, e.get 7 = some (.int .i64 ↑k) /\ e.get 5 = some (u) /\ BltN bn hp u 1 (spotL (lineP l m k)) /\ HExt ⟨bn, bm⟩ hp) ?_ ?_
 ·skip
  refine ⟨.nilslice, ?_, ?_, ?_, HExt.refl _⟩
  ·simp [go_sem, *]
  ·simp [go_sem, *]
  ·rw [H0.out]; exact BltN.nil
 intro k e lm hp hk0 hce hcl hinv
 simp only [keepE, and_true] at hce
 obtain ⟨c2, c6⟩ := hce
 simp only [go_sem, *, Nat.reduceBEq, Nat.reduceEqDiff, reduceIte] at c2 c6
 simp only [keepL, and_true] at hcl
 have d2 := hcl
 clear hcl
 simp only [go_sem, *, Nat.reduceBEq, Nat.reduceEqDiff, reduceIte] at d2
 obtain ⟨u, h7, h5, hB, hX⟩ := hinv
 by_cases hlt : k < (chn l m).length
 ·have hd0 := dT hlt
  have hv_0 := wrap_succ hlt (by have := HLN.out; unfold maxL at *; omega)
  obtain ⟨q1, q2, q3, q4⟩ := HCH.out.1 k hlt
  have hkl := HKL.out k hlt
  obtain ⟨d, hdd⟩ := get_some (l := l) (k := (curM l m k).toNat) hkl
  obtain ⟨ma, la, v1, v2, hix⟩ := HM.out.elem _ _ hdd
  have hmk : marksA l (curM l m k).toNat = d.marks := by unfold marksA; rw [hdd]
  have hpre : ∀ i, lineQ l m k (curM l m k).toNat d.marks i <+: lineM l m := fun i => by rw [<- hmk]; exact lineQ_pre q1
  have hln : lineP l m (k + 1) = lineQ l m k (curM l m k).toNat d.marks d.marks.length := by
   rw [lineP_next q1, hmk]; unfold lineQ; rw [List.take_length]
  have hl0 : lineQ l m k (curM l m k).toNat d.marks 0 = lineP l m k := by unfold lineQ; simp
  rw [<- hl0] at hB
  obtain ⟨id, e1, e2, e3, e4⟩ := bltN_at HB1.out (nats_at q1)
  simp only at e4
  have hat := nats_at q1
  have hrl : (natsE (chn l m)).length = (chn l m).length := natsE_len _
  have hri := fun (H : Heap) (hg : H.get id = some (.rw 1 (natsE (chn l m)))) => rw_idx hg hat
  rw [<- e1] at hri
  have HRI := J1 hri
  have E2 := J1 e2
  have om := sl_out v1
  have ol := sl_out v2
  have lm0 := sl_len v1
  have mm := sl_max v1
  have HMI := J1 v1
  have HPRE := J1 hpre
  have HLN1 := J1 hln
  have HLT0 := J1 hlt
  clear v1 v2 hdd q1 q2 q3 q4 hmk hpre hln hl0 hlt e1 e2 hri hkl
  generalize hcu : (curM l m k).toNat = cu at *
  clear hcu
  have HB0 := J1 hB
  have HX0 := J1 hX
  have hlb := HBD.out
  clear hB hX
  repeat' (first | refine goS ?_ | (refine go2 ?_ ?_ <;> intro hh) | fail)
  refine W.loopV (d.marks.length) [2, 6, 7] [2] (fun j e1 lm1 hp1 => ∃ u1, e1.get 8 = some (.int .i64 ↑j) /\ e1.get 5 = some (u1) /\ BltN bn hp1 u1 1 (spotL (lineQ l m k cu d.marks j)) /\ HExt ⟨bn, bm⟩ hp1) ?_ ?_
  ·skip
   refine ⟨u, ?_, ?_, HB0.out, HX0.out⟩
   all_goals first | exact Z2 | simp [go_sem, *]
  intro j e1 lm1 hp1 hk1 hce hcl hinv
  simp only [keepE, and_true] at hce
  obtain ⟨c2, c6, c7⟩ := hce
  simp only [go_sem, *, Nat.reduceBEq, Nat.reduceEqDiff, reduceIte] at c2 c6 c7
  simp only [keepL, and_true] at hcl
  have d2 := hcl
  clear hcl
  simp only [go_sem, *, Nat.reduceBEq, Nat.reduceEqDiff, reduceIte] at d2
  obtain ⟨u1, h8, h5, hB, hX⟩ := hinv
  by_cases hjt : j < d.marks.length
  ·have hd1 := dT hjt
   have hv_1 := wrap_succ hjt mm
   obtain ⟨x, hx⟩ := get_some hjt
   have hix2 := fun H => mks_idx HMI.out hx H
   have hnx := lineQ_next (l := l) (m := m) (k := k) (j := cu) hx
   have hle := (HPRE.out j).length_le
   have hbo1 := hB.blt.out
   have hll : (spotL (lineQ l m k cu d.marks j)).length + 1 <= most := by rw [spotL_len]; unfold most; omega
   obtain ⟨pn, pm⟩ := hp1
   have g1 : pm.get id = _ := (hX.2 id e4).trans E2.out
   have r1 := HRI.out ⟨pn, pm⟩ g1
   have HNX := J1 hnx
   have HLT1 := J1 hjt
   clear hx hnx hle hjt
   repeat' (first | (apply W.drawQ (id := 7) (l1 := [0, 1, 2, 3, 4, 5, 6, 7, 8, 9, 10, 11]) (l2 := []); kernel_rfl; kernel_rfl; kernel_rfl; exact Z4) | (apply W.drawQ (id := 9) (l1 := [0, 1, 2, 3, 4, 5, 6, 7, 8, 9, 10, 11, 12, 13, 14]) (l2 := [15, 16]); kernel_rfl; kernel_rfl; kernel_rfl; exact Z4) | (apply WO1.appendN (t := 36) (u := 36) (e := 3) (e' := 3) (sz := 1) (tl := []) (hb := hB) (hx := HExt.pair hX); exact Z1; exact rfl; exact Z2; exact Z2; exact Z2; (focus (exact ty_row36)); exact Z1; (focus (intro v hv; simp at hv; subst hv; first | rfl | exact hsc)); (focus (simp only [List.length_map, List.length_cons, List.length_nil]; exact hll)); (focus (simp)); (intro v' h' hB' ho' hX'; have hcc' := hB'.blt.cells; have htt' := hB'.blt.tup; simp only [AV.cells] at hcc'; simp only [isTuple] at htt'; simp only [pM, pN])) | refine go1 ?_ | (refine go2 ?_ ?_ <;> intro hh) | fail)
   all_goals refine contV_mk (by first | assumption | exact HLT1.out | exact HLT0.out) J7 J8 ?_
   all_goals refine ⟨v', ?_, ?_, ?_, hX'⟩
   all_goals first | exact Z2 | skip
   ·rw [HNX.out, spotL_app]; exact hB'
  ·have hd1 := dF hjt
   obtain rfl : j = d.marks.length := by omega
   have hbo1 := hB.blt.out
   rw [<- HLN1.out] at hB
   obtain ⟨pn, pm⟩ := hp1
   have g1 : pm.get id = _ := (hX.2 id e4).trans E2.out
   have r1 := HRI.out ⟨pn, pm⟩ g1
   have HB2 := J1 hB
   have HX2 := J1 hX
   clear hB hX
   repeat' (first | (apply W.drawQ (id := 7) (l1 := [0, 1, 2, 3, 4, 5, 6, 7, 8, 9, 10, 11]) (l2 := []); kernel_rfl; kernel_rfl; kernel_rfl; exact Z4) | (apply W.drawQ (id := 9) (l1 := [0, 1, 2, 3, 4, 5, 6, 7, 8, 9, 10, 11, 12, 13, 14]) (l2 := [15, 16]); kernel_rfl; kernel_rfl; kernel_rfl; exact Z4) | refine go1 ?_ | (refine go2 ?_ ?_ <;> intro hh) | fail)
   all_goals refine contV_mk J9 J7 J8 ?_
   all_goals refine ⟨u1, ?_, ?_, HB2.out, HX2.out⟩
   all_goals first | exact Z2 | skip
 ·have hd0 := dF hlt
  obtain rfl : k = (chn l m).length := by omega
  rw [lineP_all] at hB
  have hbo1 := hB.blt.out
  have HB2 := J1 hB
  have HX2 := J1 hX
  clear hB hX
  repeat' (first | refine goS ?_ | (refine go2 ?_ ?_ <;> intro hh) | fail)
  all_goals (simp only [rV Tryz.func109, Tryz.results109]; first | exact J5 | refine J6 ?_)
  exact ⟨_, _, HX1.out.trans HX2.out, rfl, HB2.out.base HX1.out.1⟩
end
end Go.AM
namespace Go.AM
open Go Go.Proofs
variable [Keep]
attribute [local irreducible] W WO WO1 WD WQ WT thenQ blockQ endR isRet retK Cl ClR
open Go.Mo7 (befL befH insR shiAt sumI sumI_app)
theorem dayA_zero (ls : List Ln) : dayA ls 0 = 0 := by unfold dayA; rfl
attribute [local irreducible] befL befH dayA insR
section
variable {c : Itr}
theorem C95 (hc : c 95 = none) (p clo chi : Int) (ma la : AV) (om : outV (some ma) = some ma) (ls : List Ln) (v2 : slV lnC la = some ls) (n : Nat) (hn : n < ls.length) (h : Heap) :
  Cl (dX c) 95 [.agg [.int .i64 p, .int .i64 clo, .int .i64 chi, ma, la], .int .i64 (n : Int)] h (.ret (.int .i64 (dayA ls (n + 1))) h none) := by
 refine ClR.cl ?_
 have ol := sl_out v2
 have ll := sl_len v2
 have ml := sl_max v2
 have HV := J1 v2
 have HN := J1 hn
 have HD0 := J1 (dayA_zero ls)
 clear v2
 refine wK hc Tryz.func95 rfl (fun e => by cases e) ?_
 repeat' (first | refine goS ?_ | (refine go2 ?_ ?_ <;> intro hh) | fail)
 refine W.loopH (n + 1) [1, 2] [2] (fun k e lm => e.get 6 = some (.int .i64 ↑k) /\ e.get 5 = some (.int .i64 (dayA ls k))) ?_ ?_
 ·skip
  refine ⟨?_, ?_⟩
  ·simp [go_sem, *]
  ·rw [HD0.out]; simp [go_sem, *]
 intro k e lm hk0 hce hcl hinv
 simp only [keepE, and_true] at hce
 obtain ⟨c1, c2⟩ := hce
 simp only [go_sem, *, Nat.reduceBEq, Nat.reduceEqDiff, reduceIte] at c1 c2
 simp only [keepL, and_true] at hcl
 have d2 := hcl
 clear hcl
 simp only [go_sem, *, Nat.reduceBEq, Nat.reduceEqDiff, reduceIte] at d2
 obtain ⟨h6, h5⟩ := hinv
 by_cases hlt : k < n + 1
 ·have hd0 := dT hlt
  have hv_0 := wrap_succ hlt (by have := HN.out; omega)
  obtain ⟨x, hx⟩ := get_some (l := ls) (k := k) (by have := HN.out; omega)
  have hix := fun H => lns_idx HV.out hx H
  have hdn := dayA_next hx
  have hle : decide ((k : Int) <= (n : Int)) = true := by simp only [decide_eq_true_eq]; omega
  have HDN := J1 hdn
  have HLT0 := J1 hlt
  clear hx hdn hlt
  repeat' (first | refine goS ?_ | (refine go2 ?_ ?_ <;> intro hh) | fail)
  all_goals refine contH_mk J9 J7 J8 ?_
  all_goals refine ⟨?_, ?_⟩
  all_goals first | exact Z2 | skip
  all_goals (rw [HDN.out]; simp only [go_sem, *, Nat.reduceLT, Int.reduceEq, Int.reduceBEq, Int.reduceLE, Int.reduceLT, Nat.reduceAdd, Nat.reduceBEq, Nat.reduceEqDiff, reduceIte, Nat.reduceLeDiff, Nat.reduceMul, Nat.reduceSub, reduceCtorEq])
 ·have hd0 := dF hlt
  obtain rfl : k = n + 1 := by omega
  have hle : decide (((n + 1 : Nat) : Int) <= (n : Int)) = false := by simp only [decide_eq_false_iff_not]; omega
  repeat' (first | refine goS ?_ | (refine go2 ?_ ?_ <;> intro hh) | fail)
  all_goals (simp only [rV Tryz.func95, Tryz.results95]; first | exact J5 | refine J6 ?_)
  all_goals rfl
end
attribute [local irreducible] lisN natsE
section
variable {c : Itr}
end
end Go.AM
namespace Go.AM
open Go Go.Proofs
variable [Keep]
def spotI (q : List (Nat × Mk)) : List Int := q.map fun jx => jx.2.spot
theorem met_ok : ∀ (q : List (Nat × Mk)) (s : Nat), (∀ jx ∈ q, 0 <= jx.2.spot /\ jx.2.spot <= 7) ->
  ((foldS metS q s).2 = true ↔ (spotI q).Nodup /\ ∀ jx ∈ q, s.testBit jx.2.spot.toNat = false)
 | [], s, _ => by simp [foldS, spotI]
 | a :: q, s, h => by
  have ha := h a (by simp)
  have ih := met_ok q (s ||| 2 ^ a.2.spot.toNat) (fun jx hj => h jx (by simp [hj]))
  have e1 : spotI (a :: q) = a.2.spot :: spotI q := rfl
  rw [e1, List.nodup_cons, List.forall_mem_cons]
  unfold foldS
  by_cases hs : s &&& 2 ^ a.2.spot.toNat = 0
  ·have hb : s.testBit a.2.spot.toNat = false := by
    have := and_pow s a.2.spot.toNat
    rw [hs] at this
    cases hq : s.testBit a.2.spot.toNat with
    | false => rfl
    | true =>
     rw [hq, if_pos rfl] at this
     have hp : 0 < 2 ^ a.2.spot.toNat := Nat.two_pow_pos _
     omega
   rw [metS_go hs]
   simp only [if_true]
   rw [ih]
   constructor
   ·rintro ⟨h1, h2⟩
    refine ⟨⟨fun hm => ?_, h1⟩, hb, fun jx hj => ?_⟩
    ·unfold spotI at hm
     obtain ⟨jx, hj, he⟩ := List.mem_map.1 hm
     have := h2 jx hj
     rw [Nat.testBit_or, Bool.or_eq_false_iff, he, Nat.testBit_two_pow_self] at this
     cases this.2
    ·have := h2 jx hj
     rw [Nat.testBit_or, Bool.or_eq_false_iff] at this
     exact this.1
   ·rintro ⟨⟨h1, h2⟩, h3, h4⟩
    refine ⟨h2, fun jx hj => ?_⟩
    rw [Nat.testBit_or, Bool.or_eq_false_iff]
    refine ⟨h4 jx hj, Nat.testBit_two_pow_of_ne fun e => h1 ?_⟩
    have hjx := h jx (by simp [hj])
    have : jx.2.spot = a.2.spot := by omega
    unfold spotI
    exact List.mem_map.2 ⟨jx, hj, this⟩
  ·have hb : s.testBit a.2.spot.toNat = true := by
    have := and_pow s a.2.spot.toNat
    cases hq : s.testBit a.2.spot.toNat with
    | true => rfl
    | false =>
     rw [hq, if_neg (by decide)] at this
     exact absurd this hs
   rw [metS_no hs]
   simp only [Bool.false_eq_true, if_false, hb, false_iff, not_and]
   intro _ h2
   cases h2
theorem line_dup {l : List Md} {m : Int} (h : ∀ jx ∈ lineM l m, 0 <= jx.2.spot /\ jx.2.spot <= 7) : lineOk l m = true ↔ (spotI (lineM l m)).Nodup := by
 unfold lineOk
 rw [met_ok _ _ h]
 simp
theorem nodup_next {xs : List Int} {k : Nat} {x : Int} (hx : xs[k]? = some x) (h : (xs.take k).Nodup) (hn : x ∉ xs.take k) : (xs.take (k + 1)).Nodup := by
 rw [take_next hx, List.nodup_append]
 refine ⟨h, by simp, fun a ha b hb e => ?_⟩
 rw [List.mem_singleton] at hb
 subst hb
 subst e
 exact hn ha
theorem nodup_no {xs : List Int} {k j : Nat} {x : Int} (hx : xs[k]? = some x) (hy : xs[j]? = some x) (hj : j < k) : ¬ xs.Nodup := fun h => by
 obtain ⟨h1, e1⟩ := List.getElem?_eq_some_iff.1 hx
 obtain ⟨h2, e2⟩ := List.getElem?_eq_some_iff.1 hy
 exact List.pairwise_iff_getElem.1 h j k h2 h1 hj (by rw [e1, e2])
theorem notin_next {xs : List Int} {j : Nat} {x y : Int} (hy : xs[j]? = some y) (h : x ∉ xs.take j) (hn : ¬ y = x) : x ∉ xs.take (j + 1) := by
 rw [take_next hy, List.mem_append, List.mem_singleton]
 rintro (h1 | h1)
 ·exact h h1
 ·exact hn h1.symm
def preB (p clo chi : Int) (nm nl : Nat) (n : Int) : Bool :=
 inB p (-1) (IntKind.i64.wrap (n - 1)) && spB clo chi 0 36 && !decide (IntKind.i64.wrap (chi - clo) > 5) && !(decide (p < 0) && (chi != 0)) && !decide ((nm : Int) > 4) && inB nl 1 3
theorem md_pre (p clo chi : Int) (ms : List Mk) (ls : List Ln) (n : Int) : mdB p clo chi ms ls n = (preB p clo chi ms.length ls.length n && ms.all (fun x => !badM x) && ls.all (fun x => !badL x)) := by
 unfold mdB preB
 have e1 : (ms.any badM) = !(ms.all fun x => !badM x) := by rw [List.any_eq_not_all_not]
 have e2 : (ls.any badL) = !(ls.all fun x => !badL x) := by rw [List.any_eq_not_all_not]
 rw [e1, e2, Bool.not_not, Bool.not_not]
 congr 2
 cases hs : spB clo chi 0 36 with
 | false => simp
 | true =>
  have hz : (clo == 0 && chi == 0) = (chi == 0) := by
   unfold spB at hs
   simp only [Bool.and_eq_true, decide_eq_true_eq] at hs
   rw [Bool.eq_iff_iff]
   simp only [Bool.and_eq_true, beq_iff_eq]
   omega
  rw [hz]
  have e3 : (!(chi == 0)) = (chi != 0) := rfl
  have e4 : decide ((ms.length : Int) <= 4) = !decide ((ms.length : Int) > 4) := by
   rw [Bool.eq_iff_iff]
   simp
  rw [e3, e4]
theorem marksA_le {l : List Md} {n : Nat} (hn : n <= maxL) (h : MdsOk l n) {j : Nat} (hj : j < n) : (marksA l j).length <= 4 := by
 unfold marksA
 split
 ·rename_i d hd
  exact (mdOk_parts (by omega) (h j d hj hd)).2.2.2.2.2.1
 ·simp
theorem line_len {l : List Md} {n : Nat} (hn : n <= maxL) (h : MdsOk l n) (hl : n <= l.length) {m : Int} (h1 : -1 <= m) (h3 : m < n) : (lineM l m).length <= 4 * n := by
 obtain ⟨a, b, c⟩ := chn_at (h.wf hn) hl h1 h3
 have key : ∀ q : List Nat, (∀ j ∈ q, j < n) -> (q.flatMap fun j => (marksA l j).map fun x => (j, x)).length <= 4 * q.length := by
  intro q
  induction q with
  | nil => intro _; simp
  | cons j q ih =>
   intro hq
   have h4 := marksA_le hn h (hq j (by simp))
   have := ih fun i hi => hq i (by simp [hi])
   rw [List.flatMap_cons, List.length_append, List.length_map, List.length_cons]
   omega
 unfold lineM
 have := key (chn l m) fun j hj => by
  obtain ⟨k, hk⟩ := List.mem_iff_getElem?.1 hj
  have hkl : k < (chn l m).length := (List.getElem?_eq_some_iff.1 hk).1
  have := a k hkl
  rw [hk] at this
  have e := Option.some.inj this.1
  omega
 omega
end Go.AM
