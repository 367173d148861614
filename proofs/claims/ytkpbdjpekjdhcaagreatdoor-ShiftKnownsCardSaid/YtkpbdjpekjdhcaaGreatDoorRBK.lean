/-
  A part of the proof: contracts of functions.
-/
import Derived.Test.YtkpbdjpekjdhcaaGreatDoorRBJ
import Derived.Test.YtkpbdjpekjdhcaaGreatDoorRBF
set_option linter.unusedSectionVars false
set_option linter.unusedVariables false
set_option linter.unusedSimpArgs false
set_option maxRecDepth 100000
namespace Go.AM
open Go Go.Proofs
variable [Keep]
attribute [local irreducible] W WO WO1 WD WQ WT thenQ blockQ endR isRet retK Cl ClR
open Go.TX (Rm Fa Ha Hs)
attribute [local irreducible] houseB airS lowsA highsA failsH
def rstP (n k r : Nat) : List Int := (List.replicate n (-1)).set k (r : Int)
def rowK (m : Hs) (nn r : Nat) : Nat → List (Int × Int)
 | 0 => []
 | k + 1 => rowK m nn r k ++ [airS m (rstP nn k r)]
def knG (m : Hs) (nn : Nat) : Nat → List (List (Int × Int))
 | 0 => []
 | r + 1 => knG m nn r ++ [rowK m nn r nn]
theorem rowK_len (m : Hs) (nn r : Nat) : ∀ k, (rowK m nn r k).length = k := by
 intro k
 induction k with
 | zero => rfl
 | succ k ih => simp [rowK, ih]
theorem knG_len (m : Hs) (nn : Nat) : ∀ k, (knG m nn k).length = k := by
 intro k
 induction k with
 | zero => rfl
 | succ k ih => simp [knG, ih]
theorem spanE_app (l : List (Int × Int)) (p : Int × Int) : spanE (l ++ [p]) = spanE l ++ [.agg [.int .i64 p.1, .int .i64 p.2]] := by simp [spanE, spC]
theorem rest_path {m : Hs} (ho : HOk m) {nn : Nat} (hnn : m.hours = nn) {k r : Nat} (hr : r < m.rooms.length) : pathB m (rstP nn k r) = true := by
 have h3 := ho.rooms
 unfold pathB rstP
 simp only [List.length_set, List.length_replicate, Bool.and_eq_true, beq_iff_eq, List.all_eq_true]
 refine ⟨hnn.symm, fun x hx => ?_⟩
 rw [w64_small (by omega) (by omega), inB_iff]
 rcases List.mem_or_eq_of_mem_set hx with h | h
 ·have := (List.mem_replicate.1 h).2
  omega
 ·omega
noncomputable def cNY : Itr
 | 55 => some (pureFn sp55)
 | _ => none
theorem cNY_sound : Sound (dX cNY) := dX_sound (fun f g h => by
 unfold cNY at h
 split at h
 ·cases h; exact F55
 ·cases h)
def sp26 : List AV → Option AV
 | [x] => match hsV x with
  | some m => if houseB m = true then some (slN (spansE (knG m m.hours.toNat m.rooms.length))) else none
  | none => none
 | _ => none
theorem spans_map (g : List (List (Int × Int))) : slN ((g.map spanE).map slN) = slN (spansE g) := by unfold spansE; rw [List.map_map]; rfl
set_option maxHeartbeats 16000000 in
theorem R26 (m : Hs) (ra fa oa ha : AV) (hm : HsA m ra fa oa ha) (hb : houseB m = true) : ClR (dX cNY) 26 [.agg [.int .i64 m.hours, ra, fa, oa, ha]] emptyHp (isQ (slN (spansE (knG m m.hours.toNat m.rooms.length)))) := by
 have ho := house_ok hb
 obtain ⟨nn, hnn, hnt, hn1, hn4, hol⟩ := ho_parts ho
 have hr3 := ho.rooms
 have l1 := sl_len hm.r
 have o1 := sl_out hm.r
 have o2 := sl_out hm.f
 have o3 := sl_out hm.o
 have o4 := sl_out hm.h
 have k55 := fun h => K55 (X := dX cNY) rfl hm hb h
 have h63 := fun (pa : AV) (p : List Int) (h : Heap) (hp : pthV h pa = some p) (hq : pathB m p = true) => C63 (c := cNY) rfl rfl m ho pa p h hp hq
 have hpb := fun (k r : Nat) (hr : r < m.rooms.length) => rest_path ho hnn (k := k) hr
 have a1 := (slN_is (fksE (failsH m))).out
 have a2 := (slN_is (lowsA m (failsH m))).out
 have a3 := (slN_is (highsA m (failsH m))).out
 unfold airE at k55 h63
 rw [hnt]
 rw [hnn] at k55 ⊢
 have H63 := Lib.hid h63
 have HPB := Lib.hid hpb
 have HN := Lib.hid hn4
 have HN1 := Lib.hid hn1
 have HR := Lib.hid hr3
 clear hm hb ho hnn hnt hol hn1 hn4 hr3 h63 hpb
 generalize slN (fksE (failsH m)) = b1 at *
 generalize slN (lowsA m (failsH m)) = b2 at *
 generalize slN (highsA m (failsH m)) = b3 at *
 refine ClR.walk (c := _) rfl Tryz.func26 rfl (by kernel_rfl) rfl isQ_fail ?_
 try simp only [entryEnv, Nat.reduceAdd, List.nil_append, List.cons_append, emptyHp]
 repeat' (first | refine goS ?_ | (apply U6; exact Z1; exact Z1; (focus (simp only [List.nil_append, List.append_nil]; first | exact k55 _)); simp only [pM, pN, rR, rP]) | refine go2 (fun hh => ?_) (fun hh => ?_) | fail)
 refine W.loopV (m.rooms.length) [1, 3] [1, 3] (fun k e lm hp => ∃ v, e.get 5 = some (.int .i64 ↑k) ∧ e.get 4 = some (v) ∧ Blt2 hp v 2 ((knG m nn k).map spanE)) ?_ ?_
 ·skip
  refine ⟨.nilslice, ?_, ?_, Blt2.nil⟩
  all_goals first | exact Z2 | (simp [go_sem, *]; done) | skip
 intro k e lm hp hk0 hce hcl hinv
 simp only [keepE, and_true] at hce
 obtain ⟨c1, c3⟩ := hce
 simp only [go_sem, *, Nat.reduceLT, Int.reduceEq, Int.reduceBEq, Int.reduceLE, Int.reduceLT, Nat.reduceAdd, Nat.reduceBEq, Nat.reduceEqDiff, reduceIte, Nat.reduceLeDiff, Nat.reduceMul, Nat.reduceSub, reduceCtorEq] at c1 c3
 simp only [keepL, and_true] at hcl
 obtain ⟨d1, d3⟩ := hcl
 simp only [go_sem, *, Nat.reduceLT, Int.reduceEq, Int.reduceBEq, Int.reduceLE, Int.reduceLT, Nat.reduceAdd, Nat.reduceBEq, Nat.reduceEqDiff, reduceIte, Nat.reduceLeDiff, Nat.reduceMul, Nat.reduceSub, reduceCtorEq] at d1 d3
 obtain ⟨v, h5, h4, hB⟩ := hinv
 by_cases hlt : k < m.rooms.length
 ·have hd0 : decide ((k : Int) < ((m.rooms.length : Nat) : Int)) = true := by first | (simpa using hlt; done) | (simp only [decide_eq_true_eq]; omega)
  have hv_0 := wrap_succ hlt (by have := HR.out; unfold maxL; omega)
  have hbo := hB.out
  have HB0 := Lib.hid hB
  have HLT0 := Lib.hid hlt
  clear hlt hB
  repeat' (first | refine goS ?_ | refine go2 (fun hh => ?_) (fun hh => ?_) | fail)
  refine W.loopV (nn) [1, 3, 4, 5] [1, 3] (fun j e1 lm1 hp1 => ∃ u, e1.get 7 = some (.int .i64 ↑j) ∧ e1.get 6 = some (u) ∧ BltN hp.next hp1 u 2 (spanE (rowK m nn k j)) ∧ HExt hp hp1) ?_ ?_
  ·skip
   refine ⟨.nilslice, ?_, ?_, BltN.nil, HExt.refl _⟩
   all_goals first | exact Z2 | (simp [go_sem, *]; done) | skip
  intro j e1 lm1 hp1 hk1 hce hcl hinv
  simp only [keepE, and_true] at hce
  obtain ⟨c1, c3, c4, c5⟩ := hce
  simp only [go_sem, *, Nat.reduceLT, Int.reduceEq, Int.reduceBEq, Int.reduceLE, Int.reduceLT, Nat.reduceAdd, Nat.reduceBEq, Nat.reduceEqDiff, reduceIte, Nat.reduceLeDiff, Nat.reduceMul, Nat.reduceSub, reduceCtorEq] at c1 c3 c4 c5
  simp only [keepL, and_true] at hcl
  obtain ⟨d1, d3⟩ := hcl
  simp only [go_sem, *, Nat.reduceLT, Int.reduceEq, Int.reduceBEq, Int.reduceLE, Int.reduceLT, Nat.reduceAdd, Nat.reduceBEq, Nat.reduceEqDiff, reduceIte, Nat.reduceLeDiff, Nat.reduceMul, Nat.reduceSub, reduceCtorEq] at d1 d3
  obtain ⟨u, h7, h6, hB, hX⟩ := hinv
  by_cases hjt : j < nn
  ·have hd1 : decide ((j : Int) < ((nn : Nat) : Int)) = true := by first | (simpa using hjt; done) | (simp only [decide_eq_true_eq]; omega)
   have hv_1 := wrap_succ hjt (by have := HN.out; unfold maxL; omega)
   have hbo1 := hB.blt.out
   have hw := C86 (c := cNY) rfl nn (by have := HN.out; omega) hp1
   unfold ClR restR at hw
   obtain ⟨_, hcl, h2, v2, hx2, rfl, hb2⟩ := hw
   obtain ⟨id, e1, e2, e3, e4⟩ := hb2.row (by have := HN1.out; intro e; have := congrArg List.length e; rw [intsE_len, List.length_replicate, List.length_nil] at this; omega)
   rw [intsE_len, List.length_replicate] at e1
   subst e1
   obtain ⟨zn, zm⟩ := h2
   have hi : idxV (.int .i64 (j : Int)) nn = some j := by
    simp only [idxV]
    rw [if_pos (by constructor <;> omega)]
    simp
   have hixr : indexAddrV Tryz.prog ⟨zn, zm⟩ 24 (.row id 0 nn) (.int .i64 (j : Int)) = some (.eptr id 1 j 0) := by
    simp only [indexAddrV, Tryz.underlying24, ty_lay3, hi, e2, if_true, Nat.zero_add]
   have hgj : (intsE (List.replicate nn (-1)))[j]? = some (.int .i64 (-1)) := by
    unfold intsE; rw [List.getElem?_map, List.getElem?_replicate, if_pos hjt]; rfl
   have hset : (intsE (List.replicate nn (-1))).set j (.int .i64 (k : Int)) = intsE (rstP nn j k) := by unfold intsE rstP; rw [List.map_set]
   have hpth : pthV ⟨zn, zm.set id (.rw 1 (intsE (rstP nn j k)))⟩ (.row id 0 nn) = some (rstP nn j k) := by
    have hlen : (intsE (rstP nn j k)).length = nn := by rw [intsE_len]; unfold rstP; rw [List.length_set, List.length_replicate]
    have hs := ints_sl (rstP nn j k) (by unfold rstP; rw [List.length_set, List.length_replicate]; have := HN.out; unfold maxL; omega)
    have hvs : slN (intsE (rstP nn j k)) = .vslice (intsE (rstP nn j k)) := by
     cases hq : intsE (rstP nn j k) with
     | nil => rw [hq] at hlen; simp at hlen; have := HN1.out; omega
     | cons a r => rfl
    rw [hvs] at hs
    simp only [pthV, hp_get, get_set_same, List.drop_zero, Nat.zero_add, hlen, Nat.le_refl, and_self, if_true]
    rw [List.take_of_length_le (by omega)]
    exact hs
   have k63 := fun h hp => H63.out (.row id 0 nn) (rstP nn j k) h hp (HPB.out j k HLT0.out)
   have hll : (spanE (rowK m nn k j)).length + 1 ≤ most := by unfold spanE; rw [List.length_map, rowK_len]; have := HN.out; unfold most; omega
   have hB3 : BltN hp.next ⟨zn, zm.set id (.rw 1 (intsE (rstP nn j k)))⟩ u 2 (spanE (rowK m nn k j)) := by
    rcases hB with ⟨q1, q2⟩ | ⟨id', q1, q2, q3, q4, q5⟩
    ·exact .inl ⟨q1, q2⟩
    ·refine .inr ⟨id', q1, ?_, q3, Nat.lt_of_lt_of_le q4 hx2.1, q5⟩
     simp only [hp_get, Mp.get_set]
     rw [if_neg (by omega)]
     exact (hx2.2 id' q4).trans q2
   have hX3 : HExt hp ⟨zn, zm.set id (.rw 1 (intsE (rstP nn j k)))⟩ := by
    refine ⟨Nat.le_trans hX.1 hx2.1, fun i hi => ?_⟩
    have hlt2 : i < hp1.next := Nat.lt_of_lt_of_le hi hX.1
    simp only [hp_get, Mp.get_set]
    rw [if_neg (by omega)]
    exact (hx2.2 i hlt2).trans (hX.2 i hi)
   have hgid : zm.get id = some (.rw 1 (intsE (List.replicate nn (-1)))) := e2
   have hnx : rowK m nn k (j + 1) = rowK m nn k j ++ [airS m (rstP nn j k)] := rfl
   have HNX := Lib.hid hnx
   have HLT1 := Lib.hid hjt
   clear hB hX hb2 e2 e3 e4 hx2 hi hjt hnx
   have hB := hB3
   have hX := hX3
   clear hB3 hX3
   repeat' (first | (apply U5; exact rfl; (focus (intro cl rd; simp only [go_sem, *, Nat.reduceLT, Int.reduceEq, Int.reduceBEq, Int.reduceLE, Int.reduceLT, Nat.reduceAdd, Nat.reduceBEq, Nat.reduceEqDiff, reduceIte, Nat.reduceLeDiff, Nat.reduceMul, Nat.reduceSub, reduceCtorEq, efV, Fr.storeE, AV.cells, isTuple, write_eptr, splice, asElem, isAggV]; with_reducible rfl)); simp only [pM, pN]) | (apply WO1.appendN (t := 104) (u := 104) (e := 56) (e' := 56) (sz := 2) (tl := []) (hb := hB) (hx := HExt.pair hX); exact Z1; exact rfl; exact Z2; exact Z2; exact Z2; (focus (exact ty_row104)); exact Z1; (focus (intro v hv; simp at hv; subst hv; first | rfl | exact hsc)); (focus (simp only [List.length_map, List.length_cons, List.length_nil]; exact hll)); (focus (simp)); (intro v' h' hB' ho' hX'; have hcc' := hB'.blt.cells; have htt' := hB'.blt.tup; simp only [AV.cells] at hcc'; simp only [isTuple] at htt'; simp only [pM, pN])) | refine go1 ?_ | (apply U6; exact Z1; exact Z1; (focus (simp only [List.nil_append, List.append_nil]; first | exact hcl | exact k63 _ hpth)); simp only [pM, pN, rR, rP]) | refine go2 (fun hh => ?_) (fun hh => ?_) | fail)
   all_goals refine contV_mk (by first | assumption | exact HLT1.out) (by simp only [keepE, and_true, and_self, go_sem, *, Nat.reduceLT, Int.reduceEq, Int.reduceBEq, Int.reduceLE, Int.reduceLT, Nat.reduceAdd, Nat.reduceBEq, Nat.reduceEqDiff, reduceIte, Nat.reduceLeDiff, Nat.reduceMul, Nat.reduceSub, reduceCtorEq]) (by simp only [keepL, and_true, and_self, go_sem, *, Nat.reduceLT, Int.reduceEq, Int.reduceBEq, Int.reduceLE, Int.reduceLT, Nat.reduceAdd, Nat.reduceBEq, Nat.reduceEqDiff, reduceIte, Nat.reduceLeDiff, Nat.reduceMul, Nat.reduceSub, reduceCtorEq]) ?_
   all_goals refine ⟨v', ?_, ?_, ?_, hX'⟩
   all_goals first | exact Z2 | skip
   ·rw [HNX.out, spanE_app]; exact hB'
  ·have hd1 : decide ((j : Int) < ((nn : Nat) : Int)) = false := by first | (simpa using hjt; done) | (simp only [decide_eq_false_iff_not]; omega)
   obtain rfl : j = nn := by omega
   have hB2 := HB0.out.keep hX
   have hin := InR.of (h0 := hp) hB HB0.out.below
   obtain ⟨el, hbl, hel, hall⟩ := hB2
   have hA := hbl.toN
   have hbo1 := hB.blt.out
   have hcc := hB.blt.cells
   have htt := hB.blt.tup
   have hsc : u.cells.length = 1 := by rw [hcc]; rfl
   simp only [AV.cells] at hcc
   simp only [isTuple] at htt
   have hll : el.length + 1 ≤ most := by rw [hel, List.length_map, knG_len]; have := HR.out; have := HLT0.out; unfold most; omega
   have HIN := Lib.hid hin
   have HEL := Lib.hid hel
   have HALL := Lib.hid hall
   clear hB hX hin hel hall hbl
   repeat' (first | (apply WO1.appendX (t := 30) (u := 30) (e := 104) (e' := 104) (sz := 1) (tl := []) (b := 0) (h0 := ⟨0, .nil⟩) (hb := hA) (hx := ⟨Nat.zero_le _, fun id h => absurd h (Nat.not_lt_zero id)⟩); exact Z1; exact rfl; exact Z2; exact Z2; exact Z2; (focus (exact ty_row30)); exact Z1; (focus (intro v hv; simp at hv; subst hv; first | rfl | exact hsc)); (focus (simp only [List.length_map, List.length_cons, List.length_nil]; exact hll)); (focus (simp)); (intro v' h' hB' ho' hK' hE' hX'; have hcc' := hB'.blt.cells; have htt' := hB'.blt.tup; simp only [AV.cells] at hcc'; simp only [isTuple] at htt'; simp only [pM, pN])) | refine go1 ?_ | refine go2 (fun hh => ?_) (fun hh => ?_) | fail)
   all_goals refine contV_mk (by first | assumption | exact HLT1.out) (by simp only [keepE, and_true, and_self, go_sem, *, Nat.reduceLT, Int.reduceEq, Int.reduceBEq, Int.reduceLE, Int.reduceLT, Nat.reduceAdd, Nat.reduceBEq, Nat.reduceEqDiff, reduceIte, Nat.reduceLeDiff, Nat.reduceMul, Nat.reduceSub, reduceCtorEq]) (by simp only [keepL, and_true, and_self, go_sem, *, Nat.reduceLT, Int.reduceEq, Int.reduceBEq, Int.reduceLE, Int.reduceLT, Nat.reduceAdd, Nat.reduceBEq, Nat.reduceEqDiff, reduceIte, Nat.reduceLeDiff, Nat.reduceMul, Nat.reduceSub, reduceCtorEq]) ?_
   all_goals refine ⟨v', ?_, ?_, ?_⟩
   all_goals first | exact Z2 | skip
   ·rw [knG, List.map_append]
    exact Blt2.app HALL.out HEL.out hK' hB'.blt hE' HIN.out
 ·have hd0 : decide ((k : Int) < ((m.rooms.length : Nat) : Int)) = false := by first | (simpa using hlt; done) | (simp only [decide_eq_false_iff_not]; omega)
  obtain rfl : k = m.rooms.length := by omega
  have hfr : Frz hp v (slN (spansE (knG m nn m.rooms.length))) := by
   rw [← spans_map]
   refine hB.frz (fun l hl e he => ?_) (fun l hl e he x hx => ?_)
   ·obtain ⟨l', _, rfl⟩ := List.mem_map.1 hl
    obtain ⟨n, _, rfl⟩ := List.mem_map.1 he
    rfl
   ·obtain ⟨l', _, rfl⟩ := List.mem_map.1 hl
    obtain ⟨n, _, rfl⟩ := List.mem_map.1 he
    simp only [spC, AV.cells, List.mem_cons, List.not_mem_nil, or_false] at hx
    rcases hx with rfl | rfl <;> exact ⟨rfl, rfl⟩
  have hbo := hB.out
  have HFR := Lib.hid hfr
  clear hB hfr
  repeat' (first | refine goS ?_ | refine go2 (fun hh => ?_) (fun hh => ?_) | fail)
  all_goals (simp only [resV_def (X := dX cNY) Tryz.func26, Tryz.results26]; first | exact J5 | refine J6 ?_)
  exact isQ_ret HFR.out
theorem F26 : IntrFn Tryz.prog 26 (newQ sp26) := newQ_fn (X := dX cNY) cNY_sound fun args v h => by
 unfold sp26 at h
 split at h
 ·split at h
  ·rename_i m hm
   split at h
   ·rename_i hb
    have h := Option.some.inj h
    subst h
    obtain ⟨ra, fa, oa, ha, rfl, hA⟩ := hs_parts' hm
    exact R26 m ra fa oa ha hA hb
   ·cases h
  ·cases h
 ·cases h
theorem K26 {X : Ctx} (hX : X.intr 26 = some (newQ sp26)) {ra fa oa ha : AV} {m : Hs} (hm : HsA m ra fa oa ha) (hb : houseB m = true) (h : Heap) :
  Cl X 26 [.agg [.int .i64 m.hours, ra, fa, oa, ha]] h (.ret (slN (spansE (knG m m.hours.toNat m.rooms.length))) h none) := by
 refine Cl.newQ hX (l := [.agg [.int .i64 m.hours, ra, fa, oa, ha]]) ?_ ?_
 ·exact viewDs_p (by simp only [AV.purL, AV.pur, sl_pur hm.r, sl_pur hm.f, sl_pur hm.o, sl_pur hm.h, Bool.and_self])
 ·simp only [sp26, hm.hs, hb, if_true]
end Go.AM
namespace Go.AM
open Go Go.Proofs
variable [Keep]
attribute [local irreducible] W WO WO1 WD WQ WT thenQ blockQ endR isRet retK Cl ClR
open Go.TX (Rm Fa Ha Hs)
theorem rst_get {n k r j : Nat} (hj : j < n) : (rstP n k r)[j]? = some (if j = k then (r : Int) else -1) := by
 unfold rstP
 rw [List.getElem?_set]
 by_cases e : k = j
 ·subst e
  rw [if_pos rfl, if_pos rfl]
  simp [hj]
 ·rw [if_neg e, if_neg (fun h => e h.symm), List.getElem?_replicate, if_pos hj]
theorem rst_len (n k r : Nat) : (rstP n k r).length = n := by unfold rstP; rw [List.length_set, List.length_replicate]
theorem br_rest {g : List (List Int)} {R n : Nat} (hg : GOk g R n 250) {r k : Nat} (hr : r < R) (hk : k < n) : ∀ j : Nat, j ≤ n → brG g (rstP n k r) j = some (if j ≤ k then 0 else (g.getD r []).getD k 0) := by
 obtain ⟨row, hrow⟩ := get_some (l := g) (k := r) (by rw [hg.len]; exact hr)
 have hrl := hg.row row (List.mem_of_getElem? hrow)
 obtain ⟨x, hx⟩ := get_some (l := row) (k := k) (by omega)
 have hv := hg.val row (List.mem_of_getElem? hrow) x (List.mem_of_getElem? hx)
 have hgx : (g.getD r []).getD k 0 = x := by simp [List.getD, hrow, hx]
 rw [hgx]
 intro j
 induction j with
 | zero => intro _; unfold brG; simp
 | succ j ih =>
  intro hj
  have ih := ih (by omega)
  have hp := rst_get (n := n) (k := k) (r := r) (j := j) (by omega)
  unfold brG
  simp only [ih, hp]
  by_cases e : j = k
  ·subst e
   have e1 : ((r : Int) == -1) = false := by simp only [beq_eq_false_iff_ne, ne_eq]; omega
   have hga : gridA g (r : Int) j = some x := by
    unfold gridA
    rw [if_pos (by omega)]
    simp [hrow, hx]
   simp only [if_true, e1, Bool.false_eq_true, if_false, hga, Nat.le_refl]
   rw [if_neg (by omega), w64_small (by omega) (by omega), Int.zero_add]
  ·simp only [if_neg e, beq_self_eq_true, if_true]
   by_cases e2 : j ≤ k
   ·rw [if_pos e2, if_pos (by omega)]
   ·rw [if_neg e2, if_neg (by omega)]
theorem brV_rest {g : List (List Int)} {R n : Nat} (hg : GOk g R n 250) {r k : Nat} (hr : r < R) (hk : k < n) : brV g (rstP n k r) = (g.getD r []).getD k 0 := by
 unfold brV
 rw [rst_len, br_rest hg hr hk n (Nat.le_refl _), if_neg (by omega)]
 rfl
theorem kn_fold {m : Hs} (ho : HOk m) {r k : Nat} (hr : r < m.rooms.length) (hk : k < m.hours.toNat) {f0 : Fl} (h0 : (failsH m)[0]? = some f0) :
  airS m (rstP m.hours.toNat k r) = (((failsH m).map fun f => ((lowG m f).getD r []).getD k 0).foldl minV (((lowG m f0).getD r []).getD k 0), ((failsH m).map fun f => ((highG m f).getD r []).getD k 0).foldl maxV (((highG m f0).getD r []).getD k 0)) := by
 have e1 : lowsV m (rstP m.hours.toNat k r) = (failsH m).map fun f => ((lowG m f).getD r []).getD k 0 := by
  unfold lowsV
  exact List.map_congr_left fun f _ => brV_rest (low_ok ho f) hr hk
 have e2 : highsV m (rstP m.hours.toNat k r) = (failsH m).map fun f => ((highG m f).getD r []).getD k 0 := by
  unfold highsV
  exact List.map_congr_left fun f _ => brV_rest (high_ok ho f) hr hk
 unfold airS
 rw [e1, e2]
 generalize failsH m = L at *
 cases L with
 | nil => cases h0
 | cons f l =>
  simp only [List.getElem?_cons_zero, Option.some.injEq] at h0
  subst h0
  have a1 : ∀ x : Int, minV x x = x := fun x => by simp [minV]
  have a2 : ∀ x : Int, maxV x x = x := fun x => by simp [maxV]
  simp only [List.map_cons, minL, maxL', List.foldl_cons, a1, a2]
end Go.AM
