/-
  A part of the proof: contracts of functions.
-/
import Derived.Test.YtkpbdjpekjdhcaaGreatDoorXBA
set_option linter.unusedSectionVars false
set_option linter.unusedVariables false
set_option linter.unusedSimpArgs false
set_option maxRecDepth 100000
namespace Go.AM
open Go Go.Proofs
variable [Keep]
attribute [local irreducible] W WO WO1 WD WQ WT thenQ blockQ endR isRet retK Cl ClR
open Go.TX (Rm Fa Ha Hs mapO mapO_len)
attribute [local irreducible] houseB
def endN (m : Hs) (b : Bool) (r : Nat) : Int := if b = true then (m.rooms.getD r rm0).hi else (m.rooms.getD r rm0).lo
def endL (m : Hs) (b : Bool) (nn : Nat) : Nat -> List (List Int)
 | 0 => []
 | r + 1 => endL m b nn r ++ [List.replicate nn (endN m b r)]
theorem endL_len (m : Hs) (b : Bool) (nn : Nat) : ∀ r, (endL m b nn r).length = r := by
 intro r
 induction r with
 | zero => rfl
 | succ r ih => simp [endL, ih]
theorem endL_get (m : Hs) (b : Bool) (nn : Nat) : ∀ {R r : Nat}, r < R -> (endL m b nn R)[r]? = some (List.replicate nn (endN m b r)) := by
 intro R
 induction R with
 | zero => intro r h; omega
 | succ R ih =>
  intro r h
  have hl := endL_len m b nn R
  rw [endL]
  by_cases e : r < R
  ·rw [List.getElem?_append_left (by omega)]
   exact ih e
  ·obtain rfl : r = R := by omega
   rw [List.getElem?_append_right (by omega), hl]
   simp
theorem row_congr {m : Hs} {f : Fl} {r : Nat} {md md' : Nat -> Int} : ∀ {n : Nat}, (∀ k, k < n -> md k = md' k) -> nowF m f r md n = nowF m f r md' n /\ rowF m f r md n = rowF m f r md' n := by
 intro n
 induction n with
 | zero => intro _; exact ⟨by rw [now_zero, now_zero], by rw [row_zero, row_zero]⟩
 | succ n ih =>
  intro h
  obtain ⟨h1, h2⟩ := ih fun k hk => h k (by omega)
  have e : nowF m f r md (n + 1) = nowF m f r md' (n + 1) := by rw [now_next, now_next, h1, h n (by omega)]
  exact ⟨e, by rw [row_next, row_next, h2, e]⟩
theorem run_end {m : Hs} {f : Fl} {b : Bool} {nn : Nat} (hnn : m.hours.toNat = nn) : ∀ {R : Nat}, R <= m.rooms.length -> runL m f (endL m b nn m.rooms.length) nn R = if b = true then highsP m f R else lowsP m f R := by
 intro R
 induction R with
 | zero => intro _; cases b <;> (unfold highsP lowsP runL; rfl)
 | succ R ih =>
  intro h
  obtain ⟨e1, e2⟩ := lows_succ m f R
  have hg := endL_get m b nn (R := m.rooms.length) (r := R) (by omega)
  have hmd : ∀ k, k < nn -> mdG (endL m b nn m.rooms.length) R k = endN m b R := by
   intro k hk
   unfold mdG
   simp only [List.getD, hg, Option.getD_some, List.getElem?_replicate, if_pos hk]
  have hr := (row_congr (m := m) (f := f) (r := R) hmd).2
  rw [runL, ih (by omega), hr]
  cases b with
  | true =>
   simp only [if_true]
   rw [e2, hnn]
   unfold endN
   simp only [if_true]
  | false =>
   simp only [Bool.false_eq_true, if_false]
   rw [e1, hnn]
   unfold endN
   simp only [Bool.false_eq_true, if_false]
def sp73 : List AV -> Option AV
 | [x, a, .bool b] => match hsV x, fkC.dec a with
  | some m, some y => if houseB m = true then some (.agg [slN (rowsE (endL m b m.hours.toNat m.rooms.length)), .int .i64 y.what, .int .i64 y.num, .int .i64 y.hour]) else none
  | _, _ => none
 | _ => none
theorem rep_next {x : Int} {j : Nat} : List.replicate (j + 1) x = List.replicate j x ++ [x] := by rw [List.replicate_succ']
theorem rows_frz {h : Heap} {v : AV} {ls : List (List Int)} (q : Blt2 h v 1 (ls.map intsE)) : Frz h v (slN (rowsE ls)) := by
 rw [<- rowsE_map]
 refine q.frz (fun l hl e he => ?_) (fun l hl e he x hx => ?_)
 ·obtain ⟨l', _, rfl⟩ := List.mem_map.1 hl
  obtain ⟨n, _, rfl⟩ := List.mem_map.1 he
  rfl
 ·obtain ⟨l', _, rfl⟩ := List.mem_map.1 hl
  obtain ⟨n, _, rfl⟩ := List.mem_map.1 he
  simp only [AV.cells, List.mem_singleton] at hx
  subst hx
  exact ⟨rfl, rfl⟩
theorem slN_one (l : List AV) : (slN l).one = true := by cases l <;> rfl
theorem Blt2.cells {h : Heap} {v : AV} {sz : Nat} {ls : List (List AV)} (q : Blt2 h v sz ls) : v.cells = [v] /\ isTuple v = false := by
 obtain ⟨el, b, _⟩ := q
 exact ⟨b.cells, b.tup⟩
set_option maxHeartbeats 8000000 in
theorem R73 (m : Hs) (y : Fk) (b : Bool) (ra fa oa ha : AV) (hm : HsA m ra fa oa ha) (ho : HOk m) :
  ClR (dX i0) 73 [.agg [.int .i64 m.hours, ra, fa, oa, ha], .agg [.int .i64 y.what, .int .i64 y.num, .int .i64 y.hour], .bool b] emptyHp (isQ (.agg [slN (rowsE (endL m b m.hours.toNat m.rooms.length)), .int .i64 y.what, .int .i64 y.num, .int .i64 y.hour])) := by
 obtain ⟨nn, hnn, hnt, hn1, hn4, hol⟩ := ho_parts ho
 have hr3 := ho.rooms
 have l1 := sl_len hm.r
 have o1 := sl_out hm.r
 have o2 := sl_out hm.f
 have o3 := sl_out hm.o
 have o4 := sl_out hm.h
 rw [hnt, hnn]
 have H1 := J1 hm.r
 have HN := J1 hn4
 have HR := J1 hr3
 clear hm ho hnt hnn hol hn1 hn4 hr3
 refine ClR.walk (c := _) rfl Tryz.func73 rfl (by kernel_rfl) rfl isQ_fail ?_
 try simp only [entryEnv, Nat.reduceAdd, List.nil_append, List.cons_append, emptyHp]
 repeat' (first | refine goS ?_ | (refine go2 ?_ ?_ <;> intro hh) | fail)
 refine W.loopV (m.rooms.length) [2, 3, 6, 7] [3, 6] (fun k e lm hp => ∃ v, e.get 8 = some (.int .i64 ↑k) /\ lm.get 7 = some (0, [v, .int .i64 y.what, .int .i64 y.num, .int .i64 y.hour]) /\ Blt2 hp v 1 ((endL m b nn k).map intsE)) ?_ ?_
 ·skip
  refine ⟨.nilslice, ?_, ?_, Blt2.nil⟩
  all_goals first | exact Z2 | (simp [go_sem, *]; done) | skip
 intro k e lm hp hk0 hce hcl hinv
 simp only [keepE, and_true] at hce
 obtain ⟨c2, c3, c6, c7⟩ := hce
 simp only [go_sem, *, Nat.reduceBEq, Nat.reduceEqDiff, reduceIte] at c2 c3 c6 c7
 simp only [keepL, and_true] at hcl
 obtain ⟨d3, d6⟩ := hcl
 simp only [go_sem, *, Nat.reduceBEq, Nat.reduceEqDiff, reduceIte] at d3 d6
 obtain ⟨v, h8, g7, hB⟩ := hinv
 by_cases hlt : k < m.rooms.length
 ·have hd0 : decide ((k : Int) < ((m.rooms.length : Nat) : Int)) = true := by first | (simpa using hlt; done) | (simp only [decide_eq_true_eq]; omega)
  have hv_0 := wrap_succ hlt (by have := HR.out; unfold maxL; omega)
  obtain ⟨p, hp'⟩ := get_some hlt
  have hix := fun H => rms_idx H1.out hp' H
  have hen : endN m b k = if b = true then p.hi else p.lo := by unfold endN; simp [List.getD, hp']
  have hbo := hB.out
  obtain ⟨hbc, hbt⟩ := hB.cells
  simp only [AV.cells] at hbc
  simp only [isTuple] at hbt
  have HB0 := J1 hB
  have HEN := J1 hen
  have HLT0 := J1 hlt
  clear hp' hlt hB hen
  repeat' (first | refine goS ?_ | (refine go2 ?_ ?_ <;> intro hh) | fail)
  refine W.loopV (nn) [2, 3, 6, 7, 8] [3, 6, 7] (fun j e1 lm1 hp1 => ∃ u, e1.get 10 = some (.int .i64 ↑j) /\ e1.get 9 = some (u) /\ BltN hp.next hp1 u 1 (intsE (List.replicate j (endN m b k))) /\ HExt hp hp1) ?_ ?_
  ·skip
   refine ⟨.nilslice, ?_, ?_, BltN.nil, HExt.refl _⟩
   all_goals first | exact Z2 | (simp [go_sem, *]; done) | skip
  intro j e1 lm1 hp1 hk1 hce hcl hinv
  simp only [keepE, and_true] at hce
  obtain ⟨c2, c3, c6, c7, c8⟩ := hce
  simp only [go_sem, *, Nat.reduceBEq, Nat.reduceEqDiff, reduceIte] at c2 c3 c6 c7 c8
  simp only [keepL, and_true] at hcl
  obtain ⟨d3, d6, d7⟩ := hcl
  simp only [go_sem, *, Nat.reduceBEq, Nat.reduceEqDiff, reduceIte] at d3 d6 d7
  obtain ⟨u, h10, h9, hB, hX⟩ := hinv
  by_cases hjt : j < nn
  ·have hd1 : decide ((j : Int) < ((nn : Nat) : Int)) = true := by first | (simpa using hjt; done) | (simp only [decide_eq_true_eq]; omega)
   have hv_1 := wrap_succ hjt (by have := HN.out; unfold maxL; omega)
   have hbo1 := hB.blt.out
   have hll : (intsE (List.replicate j (endN m b k))).length + 1 <= most := by
    rw [intsE_len, List.length_replicate]; have := HN.out; unfold most; omega
   have HLT1 := J1 hjt
   have hen := HEN.out
   clear hjt
   cases b with
   | true =>
    simp only [if_true] at hen
    have HE2 := J1 hen
    clear hen
    repeat' (first | (apply WO1.appendN (t := 24) (u := 24) (e := 3) (e' := 3) (sz := 1) (tl := []) (hb := hB) (hx := HExt.pair hX); exact Z1; exact rfl; exact Z2; exact Z2; exact Z2; (focus (exact ty_row24)); exact Z1; (focus (intro v hv; simp at hv; subst hv; first | rfl | exact hsc)); (focus (simp only [List.length_map, List.length_cons, List.length_nil]; exact hll)); (focus (simp)); (intro v' h' hB' ho' hX'; have hcc' := hB'.blt.cells; have htt' := hB'.blt.tup; simp only [AV.cells] at hcc'; simp only [isTuple] at htt'; simp only [pM, pN])) | refine go1 ?_ | (refine go2 ?_ ?_ <;> intro hh) | fail)
    all_goals refine contV_mk (by first | assumption | exact HLT1.out) J7 J8 ?_
    all_goals refine ⟨v', ?_, ?_, ?_, hX'⟩
    all_goals first | exact Z2 | skip
    ·rw [rep_next, intsE_app, HE2.out]; rw [HE2.out] at hB'; exact hB'
   | false =>
    simp only [Bool.false_eq_true, if_false] at hen
    have HE2 := J1 hen
    clear hen
    repeat' (first | (apply WO1.appendN (t := 24) (u := 24) (e := 3) (e' := 3) (sz := 1) (tl := []) (hb := hB) (hx := HExt.pair hX); exact Z1; exact rfl; exact Z2; exact Z2; exact Z2; (focus (exact ty_row24)); exact Z1; (focus (intro v hv; simp at hv; subst hv; first | rfl | exact hsc)); (focus (simp only [List.length_map, List.length_cons, List.length_nil]; exact hll)); (focus (simp)); (intro v' h' hB' ho' hX'; have hcc' := hB'.blt.cells; have htt' := hB'.blt.tup; simp only [AV.cells] at hcc'; simp only [isTuple] at htt'; simp only [pM, pN])) | refine go1 ?_ | (refine go2 ?_ ?_ <;> intro hh) | fail)
    all_goals refine contV_mk (by first | assumption | exact HLT1.out) J7 J8 ?_
    all_goals refine ⟨v', ?_, ?_, ?_, hX'⟩
    all_goals first | exact Z2 | skip
    ·rw [rep_next, intsE_app, HE2.out]; rw [HE2.out] at hB'; exact hB'
  ·have hd1 : decide ((j : Int) < ((nn : Nat) : Int)) = false := by first | (simpa using hjt; done) | (simp only [decide_eq_false_iff_not]; omega)
   obtain rfl : j = nn := by omega
   have hB2 := HB0.out.keep hX
   have hin := InR.of (h0 := hp) hB HB0.out.below
   obtain ⟨el, hbl, hel, hall⟩ := hB2
   have hA := hbl.toN
   have hbo1 := hB.blt.out
   have hcc := hB.blt.cells
   have htt := hB.blt.tup
   have hsc : u.cells.length = 1 := by rw [hcc]; rfl
   simp only [AV.cells] at hcc
   simp only [isTuple] at htt
   have hll : el.length + 1 <= most := by rw [hel, List.length_map, endL_len]; have := HR.out; have := HLT0.out; unfold most; omega
   have HIN := J1 hin
   have HEL := J1 hel
   have HALL := J1 hall
   clear hB hX hin hel hall hbl
   repeat' (first | (apply WO1.appendX (t := 36) (u := 36) (e := 24) (e' := 24) (sz := 1) (tl := []) (b := 0) (h0 := ⟨0, .nil⟩) (hb := hA) (hx := ⟨Nat.zero_le _, fun id h => absurd h (Nat.not_lt_zero id)⟩); exact Z1; exact rfl; exact Z2; exact Z2; exact Z2; (focus (exact ty_row36)); exact Z1; (focus (intro v hv; simp at hv; subst hv; first | rfl | exact hsc)); (focus (simp only [List.length_map, List.length_cons, List.length_nil]; exact hll)); (focus (simp)); (intro v' h' hB' ho' hK' hE' hX'; have hcc' := hB'.blt.cells; have htt' := hB'.blt.tup; simp only [AV.cells] at hcc'; simp only [isTuple] at htt'; simp only [pM, pN])) | refine go1 ?_ | (refine go2 ?_ ?_ <;> intro hh) | fail)
   all_goals refine contV_mk (by first | assumption | exact HLT1.out) J7 J8 ?_
   all_goals refine ⟨v', ?_, ?_, ?_⟩
   all_goals first | exact Z2 | skip
   ·rw [endL, List.map_append]
    exact Blt2.app HALL.out HEL.out hK' hB'.blt hE' HIN.out
 ·have hd0 : decide ((k : Int) < ((m.rooms.length : Nat) : Int)) = false := by first | (simpa using hlt; done) | (simp only [decide_eq_false_iff_not]; omega)
  obtain rfl : k = m.rooms.length := by omega
  have hfr := rows_frz hB
  have hbo := hB.out
  obtain ⟨hbc, hbt⟩ := hB.cells
  simp only [AV.cells] at hbc
  simp only [isTuple] at hbt
  have HFR := J1 hfr
  clear hB hfr
  repeat' (first | refine goS ?_ | (refine go2 ?_ ?_ <;> intro hh) | fail)
  all_goals (simp only [resV_def (X := dX i0) Tryz.func73, Tryz.results73]; first | exact J5 | refine J6 ?_)
  refine isQ_ret (.agg rfl (fun i hi => ?_) (fun x hx => ?_))
  ·have : i = 0 \/ i = 1 \/ i = 2 \/ i = 3 := by simp only [List.length_cons, List.length_nil] at hi; omega
   rcases this with rfl | rfl | rfl | rfl
   ·exact HFR.out
   ·exact .flat rfl
   ·exact .flat rfl
   ·exact .flat rfl
  ·simp only [List.mem_cons, List.not_mem_nil, or_false] at hx
   rcases hx with rfl | rfl | rfl | rfl
   ·exact slN_one _
   ·rfl
   ·rfl
   ·rfl
theorem F73 : IntrFn Tryz.prog 73 (newQ sp73) := newQ_fn (X := dX i0) i0_sound fun args v h => by
 unfold sp73 at h
 split at h
 ·split at h
  ·rename_i m y hm hy
   split at h
   ·rename_i hb
    have h := Option.some.inj h
    subst h
    obtain ⟨ra, fa, oa, ha, rfl, hA⟩ := hs_parts' hm
    obtain rfl := fkC.ed _ _ hy
    exact R73 m y _ ra fa oa ha hA (house_ok hb)
   ·cases h
  ·cases h
 ·cases h
theorem K73 {X : Ctx} (hX : X.intr 73 = some (newQ sp73)) {ra fa oa ha : AV} {m : Hs} (hm : HsA m ra fa oa ha) (hb : houseB m = true) (y : Fk) (b : Bool) (h : Heap) :
  Cl X 73 [.agg [.int .i64 m.hours, ra, fa, oa, ha], fkC.enc y, .bool b] h (.ret (.agg [slN (rowsE (endL m b m.hours.toNat m.rooms.length)), .int .i64 y.what, .int .i64 y.num, .int .i64 y.hour]) h none) := by
 refine Cl.newQ hX (l := [.agg [.int .i64 m.hours, ra, fa, oa, ha], fkC.enc y, .bool b]) ?_ ?_
 ·exact viewDs_p (by simp only [AV.purL, AV.pur, sl_pur hm.r, sl_pur hm.f, sl_pur hm.o, sl_pur hm.h, fkC, Bool.and_self])
 ·simp only [sp73, hm.hs, fkC.de, hb, if_true]
theorem end_sized {m : Hs} (ho : HOk m) (b : Bool) {f : Fl} (hf : f ∈ failsH m) : sizedB m (endL m b m.hours.toNat m.rooms.length) f.tell = true /\ findF f.tell (failsH m) = some f := by
 have hh := ho.hours
 have hfind : findF f.tell (failsH m) = some f := by
  cases hq : findF f.tell (failsH m) with
  | none => exact absurd rfl (find_none hq f hf)
  | some g => rw [tell_inj (find_some hq).2]
 refine ⟨?_, hfind⟩
 unfold sizedB
 rw [isFail_find ho, hfind]
 simp only [Bool.and_eq_true, List.all_eq_true, beq_iff_eq, endL_len, Option.isSome_some, and_true]
 intro r hr
 obtain ⟨k, hk, rfl⟩ := List.getElem_of_mem hr
 have := endL_get m b m.hours.toNat (R := m.rooms.length) (r := k) (by rw [endL_len] at hk; exact hk)
 rw [List.getElem?_eq_getElem hk] at this
 rw [Option.some.inj this, List.length_replicate]
 omega
end Go.AM
