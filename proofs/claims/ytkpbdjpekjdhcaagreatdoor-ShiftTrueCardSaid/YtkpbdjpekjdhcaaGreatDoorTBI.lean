/-
  A part of the proof: contracts of functions.
-/
import Derived.Test.YtkpbdjpekjdhcaaGreatDoorTBF
import Derived.Test.YtkpbdjpekjdhcaaGreatDoorTAV
import Derived.Test.YtkpbdjpekjdhcaaGreatDoorTBG
import Derived.Test.YtkpbdjpekjdhcaaGreatDoorTBH
import Derived.Test.YtkpbdjpekjdhcaaGreatDoorTAU
import Derived.Test.YtkpbdjpekjdhcaaGreatDoorTBA
set_option linter.unusedSectionVars false
set_option linter.unusedVariables false
set_option linter.unusedSimpArgs false
set_option maxRecDepth 100000
namespace Go.AM
open Go Go.Proofs
variable [Keep]
attribute [local irreducible] W WO WO1 WD WQ WT thenQ blockQ endR isRet retK Cl ClR
open Go.TX (Rm Fa Ha Hs)
attribute [local irreducible] houseB
section
variable {c : Itr}
set_option maxHeartbeats 8000000 in
theorem C70 (h70 : c 70 = none) (m : Hs) (ra fa oa ha la : AV) (g : List (List Int)) (hm : HsA m ra fa oa ha) (ho : HOk m) (hg : lisV la = some g) (q : GOk g m.rooms.length m.hours.toNat 250) (h : Heap) :
  Cl (dX c) 70 [.agg [.int .i64 m.hours, ra, fa, oa, ha], la] h (.ret (.bool true) h none) := by
 refine ClR.cl ?_
 obtain ⟨nn, hnn, hnt, hn1, hn4, hol⟩ := ho_parts ho
 have hr3 := ho.rooms
 have l1 := sl_len hm.r
 have o1 := sl_out hm.r
 have o2 := sl_out hm.f
 have o3 := sl_out hm.o
 have o4 := sl_out hm.h
 have lg := lis_len hg
 have og := lis_out hg
 have HG := Lib.hid hg
 have HQ := Lib.hid q
 have HN := Lib.hid hn4
 have HR := Lib.hid hr3
 have HL := Lib.hid q.len
 have HNT := Lib.hid hnt
 have hfin : ((g.length : Int) == (m.rooms.length : Int)) = true := by rw [q.len]; simp
 rw [hnn]
 clear hm ho hg q hnn hnt hol hn1 hn4 hr3
 refine ClR.walk (c := _) h70 Tryz.func70 rfl (by kernel_rfl) rfl (fun e => by cases e) ?_
 try simp only [entryEnv, Nat.reduceAdd, List.nil_append, List.cons_append, emptyHp]
 repeat' (first | refine goS ?_ | refine go2 (fun hh => ?_) (fun hh => ?_) | fail)
 refine W.loopH (g.length) [1, 2] [2] (fun k e lm => e.get 5 = some (.int .i64 ↑k)) ?_ ?_
 ·first | exact Z2 | rfl | assumption | (simp [go_sem, *]; done)
 intro k e lm hk0 hce hcl hinv
 simp only [keepE, and_true] at hce
 obtain ⟨c1, c2⟩ := hce
 simp only [go_sem, *, Nat.reduceLT, Int.reduceEq, Int.reduceBEq, Int.reduceLE, Int.reduceLT, Nat.reduceAdd, Nat.reduceBEq, Nat.reduceEqDiff, reduceIte, Nat.reduceLeDiff, Nat.reduceMul, Nat.reduceSub, reduceCtorEq] at c1 c2
 simp only [keepL, and_true] at hcl
 have d2 := hcl
 clear hcl
 simp only [go_sem, *, Nat.reduceLT, Int.reduceEq, Int.reduceBEq, Int.reduceLE, Int.reduceLT, Nat.reduceAdd, Nat.reduceBEq, Nat.reduceEqDiff, reduceIte, Nat.reduceLeDiff, Nat.reduceMul, Nat.reduceSub, reduceCtorEq] at d2
 have h5 := hinv
 clear hinv
 by_cases hlt : k < g.length
 ·have hd0 : decide ((k : Int) < ((g.length : Nat) : Int)) = true := by first | (simpa using hlt; done) | (simp only [decide_eq_true_eq]; omega)
  have hv_0 := wrap_succ hlt (by have := HL.out; have := HR.out; unfold maxL; omega)
  obtain ⟨r, hr⟩ := get_some hlt
  obtain ⟨b, hb1, hb2⟩ := lis_idx HG.out hr
  have lb := sl_len hb1
  have ob := sl_out hb1
  have hcb := (slV_is hb1).1.cells
  have htb := (slV_is hb1).1.tup
  simp only [AV.cells] at hcb
  simp only [isTuple] at htb
  have hrl : r.length = nn := by rw [HQ.out.row r (List.mem_of_getElem? hr)]; exact HNT.out
  have hne : ((r.length : Int) != (nn : Int)) = false := by rw [hrl]; simp
  have h7 : decide ((k : Int) < 7) = true := by have := HL.out; have := HR.out; simp only [decide_eq_true_eq]; omega
  have hval := fun x hx => HQ.out.val r (List.mem_of_getElem? hr) x hx
  have HB1 := Lib.hid hb1
  have HV := Lib.hid hval
  have HRL := Lib.hid hrl
  have HLT0 := Lib.hid hlt
  clear hr hb1 hval hrl hlt
  repeat' (first | (apply W.drawQ (id := 4) (l1 := [0, 1, 2, 3, 4, 5, 6, 7]) (l2 := []); kernel_rfl; kernel_rfl; kernel_rfl; exact Z4) | refine go1 ?_ | refine go2 (fun hh => ?_) (fun hh => ?_) | fail)
  refine W.loopH (r.length) [1, 2, 5] [2] (fun j e1 lm1 => e1.get 6 = some (.int .i64 ↑j)) ?_ ?_
  ·skip
   refine ?_
   all_goals first | exact Z2 | (simp [go_sem, *]; done) | skip
  intro j e1 lm1 hk1 hce hcl hinv
  simp only [keepE, and_true] at hce
  obtain ⟨c1, c2, c5⟩ := hce
  simp only [go_sem, *, Nat.reduceLT, Int.reduceEq, Int.reduceBEq, Int.reduceLE, Int.reduceLT, Nat.reduceAdd, Nat.reduceBEq, Nat.reduceEqDiff, reduceIte, Nat.reduceLeDiff, Nat.reduceMul, Nat.reduceSub, reduceCtorEq] at c1 c2 c5
  simp only [keepL, and_true] at hcl
  have d2 := hcl
  clear hcl
  simp only [go_sem, *, Nat.reduceLT, Int.reduceEq, Int.reduceBEq, Int.reduceLE, Int.reduceLT, Nat.reduceAdd, Nat.reduceBEq, Nat.reduceEqDiff, reduceIte, Nat.reduceLeDiff, Nat.reduceMul, Nat.reduceSub, reduceCtorEq] at d2
  have h6 := hinv
  clear hinv
  by_cases hjt : j < r.length
  ·have hd1 : decide ((j : Int) < ((r.length : Nat) : Int)) = true := by first | (simpa using hjt; done) | (simp only [decide_eq_true_eq]; omega)
   have hv_1 := wrap_succ hjt (by have := HRL.out; have := HN.out; unfold maxL; omega)
   obtain ⟨x, hx⟩ := get_some hjt
   have hix := fun H => ints_idx HB1.out hx H
   have hv := HV.out x (List.mem_of_getElem? hx)
   have e1 : decide (x < 0) = false := by simp only [decide_eq_false_iff_not]; omega
   have e2 : decide (x > 250) = false := by simp only [decide_eq_false_iff_not]; omega
   have HLT1 := Lib.hid hjt
   clear hx hv hjt
   repeat' (first | refine goS ?_ | refine go2 (fun hh => ?_) (fun hh => ?_) | fail)
   all_goals refine contH_mk (by first | assumption | exact HLT1.out) (by simp only [keepE, and_true, and_self, go_sem, *, Nat.reduceLT, Int.reduceEq, Int.reduceBEq, Int.reduceLE, Int.reduceLT, Nat.reduceAdd, Nat.reduceBEq, Nat.reduceEqDiff, reduceIte, Nat.reduceLeDiff, Nat.reduceMul, Nat.reduceSub, reduceCtorEq]) (by simp only [keepL, and_true, and_self, go_sem, *, Nat.reduceLT, Int.reduceEq, Int.reduceBEq, Int.reduceLE, Int.reduceLT, Nat.reduceAdd, Nat.reduceBEq, Nat.reduceEqDiff, reduceIte, Nat.reduceLeDiff, Nat.reduceMul, Nat.reduceSub, reduceCtorEq]) ?_
   all_goals first | exact Z2 | skip
  ·have hd1 : decide ((j : Int) < ((r.length : Nat) : Int)) = false := by first | (simpa using hjt; done) | (simp only [decide_eq_false_iff_not]; omega)
   obtain rfl : j = r.length := by omega
   repeat' (first | refine goS ?_ | refine go2 (fun hh => ?_) (fun hh => ?_) | fail)
   all_goals refine contH_mk (by first | assumption | exact HLT1.out) (by simp only [keepE, and_true, and_self, go_sem, *, Nat.reduceLT, Int.reduceEq, Int.reduceBEq, Int.reduceLE, Int.reduceLT, Nat.reduceAdd, Nat.reduceBEq, Nat.reduceEqDiff, reduceIte, Nat.reduceLeDiff, Nat.reduceMul, Nat.reduceSub, reduceCtorEq]) (by simp only [keepL, and_true, and_self, go_sem, *, Nat.reduceLT, Int.reduceEq, Int.reduceBEq, Int.reduceLE, Int.reduceLT, Nat.reduceAdd, Nat.reduceBEq, Nat.reduceEqDiff, reduceIte, Nat.reduceLeDiff, Nat.reduceMul, Nat.reduceSub, reduceCtorEq]) ?_
   all_goals first | exact Z2 | skip
 ·have hd0 : decide ((k : Int) < ((g.length : Nat) : Int)) = false := by first | (simpa using hlt; done) | (simp only [decide_eq_false_iff_not]; omega)
  obtain rfl : k = g.length := by omega
  have hz : decide ((g.length : Int) < (g.length : Int)) = false := by simp
  repeat' (first | refine goS ?_ | refine go2 (fun hh => ?_) (fun hh => ?_) | fail)
  all_goals (simp only [resV_def (X := dX c) Tryz.func70, Tryz.results70]; first | exact J5 | refine J6 ?_)
  all_goals rfl
end
end Go.AM
namespace Go.AM
open Go Go.Proofs
variable [Keep]
attribute [local irreducible] W WO WO1 WD WQ WT thenQ blockQ endR isRet retK Cl ClR
open Go.TX (Rm Fa Ha Hs)
attribute [local irreducible] houseB pathB airS failsH fitsB shapeB nowF rowF runsB drawnP
theorem find_tell {m : Hs} {f : Fl} (hf : f ∈ failsH m) : findF f.tell (failsH m) = some f := by
 cases hq : findF f.tell (failsH m) with
 | some z =>
  obtain ⟨h1, h2⟩ := find_some hq
  rw [tell_inj h2]
 | none =>
  exfalso
  have : ∀ {ls : List Fl}, f ∈ ls → findF f.tell ls ≠ none := by
   intro ls
   induction ls with
   | nil => intro h; cases h
   | cons a ls ih =>
    intro h
    unfold findF
    split
    ·simp
    ·rename_i hne
     rcases List.mem_cons.1 h with rfl | h
     ·exact absurd (by simp [fkEq]) hne
     ·exact ih h
  exact this hf hq
theorem run_truth {m : Hs} (hb : houseB m = true) {g : List (List Int)} (hf : fitsB m g = true) (hs : shapeB m g = true) {x : Fk} {f : Fl} (hx : findF x (failsH m) = some f) : runV m g x = .tuple [slN (rowsE (runG m f g)), .int .i64 0] := by
 unfold runV isTruth runG
 rw [hf, hb, Bool.true_and, hs, hx]
 rfl
theorem lis_row {a : AV} {g : List (List Int)} (h : lisV a = some g) {r n : Nat} (hr : r < g.length) (hn : ∀ l ∈ g, l.length = n) : ∃ b, outV (some b) = some b ∧ b.cells = [b] ∧ isTuple b = false ∧ (∀ H, indexAddrV Tryz.prog H 36 a (.int .i64 (r : Int)) = some (.vptr [b])) ∧ ∀ k, k < n → ∀ H, indexAddrV Tryz.prog H 24 b (.int .i64 (k : Int)) = some (.vptr [.int .i64 (mdG g r k)]) := by
 obtain ⟨row, hrow⟩ := get_some hr
 obtain ⟨b, h1, h2⟩ := lis_idx h hrow
 refine ⟨b, sl_out h1, (slV_is h1).1.cells, (slV_is h1).1.tup, h2, fun k hk H => ?_⟩
 obtain ⟨x, hx⟩ := get_some (l := row) (k := k) (by rw [hn row (List.mem_of_getElem? hrow)]; exact hk)
 have : mdG g r k = x := by unfold mdG; simp [List.getD, hrow, hx]
 rw [this]
 exact ints_idx h1 hx H
theorem kn_get {m : Hs} {nn : Nat} : ∀ {R r : Nat}, r < R → (knG m nn R)[r]? = some (rowK m nn r nn)
 | 0, r, h => by omega
 | R + 1, r, h => by
  rw [knG]
  by_cases e : r < R
  ·rw [List.getElem?_append_left (by rw [knG_len]; exact e)]
   exact kn_get e
  ·obtain rfl : r = R := by omega
   rw [List.getElem?_append_right (by rw [knG_len]; exact Nat.le_refl _), knG_len]
   simp
theorem rowK_get {m : Hs} {nn r : Nat} : ∀ {n k : Nat}, k < n → (rowK m nn r n)[k]? = some (airS m (rstP nn k r))
 | 0, k, h => by omega
 | n + 1, k, h => by
  rw [rowK]
  by_cases e : k < n
  ·rw [List.getElem?_append_left (by rw [rowK_len]; exact e)]
   exact rowK_get e
  ·obtain rfl : k = n := by omega
   rw [List.getElem?_append_right (by rw [rowK_len]; exact Nat.le_refl _), rowK_len]
   simp
theorem kn_row (m : Hs) (nn R : Nat) {r : Nat} (hr : r < R) : ∃ b, outV (some b) = some b ∧ b.cells = [b] ∧ isTuple b = false ∧ lenS b = some nn ∧ (∀ H, indexAddrV Tryz.prog H 30 (slN (spansE (knG m nn R))) (.int .i64 (r : Int)) = some (.vptr [b])) ∧ ∀ k, k < nn → ∀ H, indexAddrV Tryz.prog H 104 b (.int .i64 (k : Int)) = some (.vptr [.int .i64 (airS m (rstP nn k r)).1, .int .i64 (airS m (rstP nn k r)).2]) := by
 refine ⟨slN (spanE (rowK m nn r nn)), (slN_is _).out, (slN_is _).cells, (slN_is _).tup, ?_, spans_idx (kn_get hr), fun k hk => span_idx (rowK_get hk)⟩
 have := (slN_is (spanE (rowK m nn r nn))).len
 rw [this]
 unfold spanE
 rw [List.length_map, rowK_len]
def geA (a g : List (List Int)) (r n : Nat) : Bool := (List.range n).all fun k => decide (mdG a r k ≥ mdG g r k)
def geR (a g : List (List Int)) (nn R : Nat) : Bool := (List.range R).all fun r => geA a g r nn
theorem geA_next (a g : List (List Int)) (r n : Nat) : geA a g r (n + 1) = (geA a g r n && decide (mdG a r n ≥ mdG g r n)) := by
 unfold geA
 rw [List.range_succ, List.all_append]
 simp
theorem geR_next (a g : List (List Int)) (nn R : Nat) : geR a g nn (R + 1) = (geR a g nn R && geA a g R nn) := by
 unfold geR
 rw [List.range_succ, List.all_append]
 simp
theorem geR_is {a g : List (List Int)} {nn R : Nat} (h : geR a g nn R = true) {r k : Nat} (hr : r < R) (hk : k < nn) : mdG g r k ≤ mdG a r k := by
 unfold geR at h
 rw [List.all_eq_true] at h
 have h := h r (List.mem_range.2 hr)
 unfold geA at h
 rw [List.all_eq_true] at h
 have h := h k (List.mem_range.2 hk)
 simpa using h
noncomputable def cX16 : Itr
 | 21 => some (pureFn sp21S)
 | 22 => some (pureFn sp22)
 | 23 => some (newQ sp23)
 | 24 => some (flatFnD sp82)
 | 68 => some (pureFn sp68)
 | 84 => some (pureFn sp84)
 | 85 => some (pureFn sp85)
 | _ => none
theorem cX16_sound (hT : TabK Tryz.prog) : Sound (dX cX16) := dX_sound (fun f g h => by
 unfold cX16 at h
 split at h
 ·cases h; exact F21S
 ·cases h; exact F22 hT
 ·cases h; exact F23
 ·cases h; exact F24D
 ·cases h; exact F68
 ·cases h; exact F84
 ·cases h; exact F85
 ·cases h)
theorem hc16 : CxR cX16 := ⟨rfl, rfl, rfl, rfl, rfl, rfl, rfl, rfl⟩
attribute [local irreducible] knG rowK mdG geA geR
set_option maxHeartbeats 16000000 in
theorem T16b (e : Mp AV) (lm : Mp (Nat × List AV)) (hp : Heap) (ra fa oa ha dv ev xv zv : AV) (nn R : Nat) (what num hour : Int) (g l : List (List Int)) (xx zz : Nat → Nat → Int) (hn4 : nn ≤ 4) (hr3 : 0 < R ∧ R ≤ 3)
  (od : outV (some dv) = some dv) (oe : outV (some ev) = some ev) (ox : outV (some xv) = some xv) (oz : outV (some zv) = some zv) (lse : lenS ev = some R) (lsz : lenS zv = some R)
  (hE : ∀ r, r < R → ∃ b, outV (some b) = some b ∧ b.cells = [b] ∧ isTuple b = false ∧ (∀ H, indexAddrV Tryz.prog H 36 ev (.int .i64 (r : Int)) = some (.vptr [b])) ∧ ∀ k, k < nn → ∀ H, indexAddrV Tryz.prog H 24 b (.int .i64 (k : Int)) = some (.vptr [.int .i64 (mdG l r k)]))
  (hD : ∀ r, r < R → ∃ b, outV (some b) = some b ∧ b.cells = [b] ∧ isTuple b = false ∧ (∀ H, indexAddrV Tryz.prog H 36 dv (.int .i64 (r : Int)) = some (.vptr [b])) ∧ ∀ k, k < nn → ∀ H, indexAddrV Tryz.prog H 24 b (.int .i64 (k : Int)) = some (.vptr [.int .i64 (mdG g r k)]))
  (hX : ∀ r, r < R → ∃ b, outV (some b) = some b ∧ b.cells = [b] ∧ isTuple b = false ∧ (∀ H, indexAddrV Tryz.prog H 36 xv (.int .i64 (r : Int)) = some (.vptr [b])) ∧ ∀ k, k < nn → ∀ H, indexAddrV Tryz.prog H 24 b (.int .i64 (k : Int)) = some (.vptr [.int .i64 (xx r k)]))
  (hZ : ∀ r, r < R → ∃ b, outV (some b) = some b ∧ b.cells = [b] ∧ isTuple b = false ∧ (∀ H, indexAddrV Tryz.prog H 36 zv (.int .i64 (r : Int)) = some (.vptr [b])) ∧ ∀ k, k < nn → ∀ H, indexAddrV Tryz.prog H 24 b (.int .i64 (k : Int)) = some (.vptr [.int .i64 (zz r k)]))
  (hge : geR l g nn R = true → ∀ r k, r < R → k < nn → decide (zz r k < xx r k) = false)
  (c2 : e.get 2 = some ev) (c3 : e.get 3 = some (.lptr 3 0 0)) (c4 : e.get 4 = some (.lptr 4 0 0)) (c9 : e.get 9 = some xv) (c16 : e.get 16 = some zv)
  (d3 : lm.get 3 = some (0, [.int .i64 nn, ra, fa, oa, ha])) (d4 : lm.get 4 = some (0, [dv, .int .i64 what, .int .i64 num, .int .i64 hour])) :
  W (dX cX16) (codeFrom Tryz.f16 11) (Fr.mk 16 false e lm hp [] none) (endR (dX cX16) 16 (isRet (.bool true))) := by
 have k22 : ∀ h, Cl (dX cX16) 22 [] h (.ret (.bool true) h none) := fun h => K22 rfl h
 have HN := Lib.hid hn4
 have HR := Lib.hid hr3
 have HE := Lib.hid hE
 have HD := Lib.hid hD
 have HX := Lib.hid hX
 have HZ := Lib.hid hZ
 have HGE := Lib.hid hge
 clear hn4 hr3 hE hD hX hZ hge
 repeat' (first | refine goS ?_ | refine go2 (fun hh => ?_) (fun hh => ?_) | fail)
 refine W.loopH (R) [2, 3, 4, 9, 16] [3, 4] (fun k e lm => e.get 19 = some (.int .i64 ↑k) ∧ e.get 18 = some (.bool (geR l g nn k))) ?_ ?_
 ·skip
  refine ⟨?_, ?_⟩
  all_goals first | exact Z2 | (simp [go_sem, *]; done) | skip
  all_goals (rw [show geR l g nn 0 = true by unfold geR; rfl]; simp only [go_sem, *, Nat.reduceLT, Int.reduceEq, Int.reduceBEq, Int.reduceLE, Int.reduceLT, Nat.reduceAdd, Nat.reduceBEq, Nat.reduceEqDiff, reduceIte, Nat.reduceLeDiff, Nat.reduceMul, Nat.reduceSub, reduceCtorEq])
 intro k e lm hk0 hce hcl hinv
 simp only [keepE, and_true] at hce
 obtain ⟨c2, c3, c4, c9, c16⟩ := hce
 simp only [go_sem, *, Nat.reduceLT, Int.reduceEq, Int.reduceBEq, Int.reduceLE, Int.reduceLT, Nat.reduceAdd, Nat.reduceBEq, Nat.reduceEqDiff, reduceIte, Nat.reduceLeDiff, Nat.reduceMul, Nat.reduceSub, reduceCtorEq] at c2 c3 c4 c9 c16
 simp only [keepL, and_true] at hcl
 obtain ⟨d3, d4⟩ := hcl
 simp only [go_sem, *, Nat.reduceLT, Int.reduceEq, Int.reduceBEq, Int.reduceLE, Int.reduceLT, Nat.reduceAdd, Nat.reduceBEq, Nat.reduceEqDiff, reduceIte, Nat.reduceLeDiff, Nat.reduceMul, Nat.reduceSub, reduceCtorEq] at d3 d4
 obtain ⟨h19, h18⟩ := hinv
 by_cases hlt : k < R
 ·have hd0 : decide ((k : Int) < ((R : Nat) : Int)) = true := by first | (simpa using hlt; done) | (simp only [decide_eq_true_eq]; omega)
  have hv_0 := wrap_succ hlt (by have := HR.out; unfold maxL; omega)
  obtain ⟨b1, p1, p2, p3, p4, p5⟩ := HE.out k hlt
  obtain ⟨b2, p6, p7, p8, p9, p10⟩ := HD.out k hlt
  have P5 := Lib.hid p5
  have P10 := Lib.hid p10
  have HLT0 := Lib.hid hlt
  simp only [AV.cells] at p2 p7
  simp only [isTuple] at p3 p8
  clear p5 p10 hlt k22
  repeat' (first | refine goS ?_ | refine go2 (fun hh => ?_) (fun hh => ?_) | fail)
  refine W.loopH (nn) [2, 3, 4, 9, 16, 19] [3, 4] (fun j e1 lm1 => e1.get 20 = some (.int .i64 ↑j) ∧ e1.get 18 = some (.bool (geR l g nn k && geA l g k j))) ?_ ?_
  ·skip
   refine ⟨?_, ?_⟩
   all_goals first | exact Z2 | (simp [go_sem, *]; done) | skip
   all_goals (rw [show geA l g k 0 = true by unfold geA; rfl, Bool.and_true]; simp only [go_sem, *, Nat.reduceLT, Int.reduceEq, Int.reduceBEq, Int.reduceLE, Int.reduceLT, Nat.reduceAdd, Nat.reduceBEq, Nat.reduceEqDiff, reduceIte, Nat.reduceLeDiff, Nat.reduceMul, Nat.reduceSub, reduceCtorEq])
  intro j e1 lm1 hk1 hce hcl hinv
  simp only [keepE, and_true] at hce
  obtain ⟨c2, c3, c4, c9, c16, c19⟩ := hce
  simp only [go_sem, *, Nat.reduceLT, Int.reduceEq, Int.reduceBEq, Int.reduceLE, Int.reduceLT, Nat.reduceAdd, Nat.reduceBEq, Nat.reduceEqDiff, reduceIte, Nat.reduceLeDiff, Nat.reduceMul, Nat.reduceSub, reduceCtorEq] at c2 c3 c4 c9 c16 c19
  simp only [keepL, and_true] at hcl
  obtain ⟨d3, d4⟩ := hcl
  simp only [go_sem, *, Nat.reduceLT, Int.reduceEq, Int.reduceBEq, Int.reduceLE, Int.reduceLT, Nat.reduceAdd, Nat.reduceBEq, Nat.reduceEqDiff, reduceIte, Nat.reduceLeDiff, Nat.reduceMul, Nat.reduceSub, reduceCtorEq] at d3 d4
  obtain ⟨h20, h18⟩ := hinv
  by_cases hjt : j < nn
  ·have hd1 : decide ((j : Int) < ((nn : Nat) : Int)) = true := by first | (simpa using hjt; done) | (simp only [decide_eq_true_eq]; omega)
   have hv_1 := wrap_succ hjt (by have := HN.out; unfold maxL; omega)
   have u1 := P5.out j hjt
   have u2 := P10.out j hjt
   have hnx := geA_next l g k j
   have HNX := Lib.hid hnx
   have HLT1 := Lib.hid hjt
   clear hnx hjt
   cases hq : (geR l g nn k && geA l g k j) with
   | false =>
    rw [hq] at h18
    repeat' (first | (apply W.drawQ (id := 31) (l1 := [0, 1, 2, 3, 4, 5, 6, 7, 8, 9, 10, 11, 12, 13, 14, 15, 16, 17, 18, 19]) (l2 := []); kernel_rfl; kernel_rfl; kernel_rfl; exact Z4) | refine go1 ?_ | refine go2 (fun hh => ?_) (fun hh => ?_) | fail)
    all_goals refine contH_mk (by first | assumption | exact HLT1.out | exact HLT0.out) (by simp only [keepE, and_true, and_self, go_sem, *, Nat.reduceLT, Int.reduceEq, Int.reduceBEq, Int.reduceLE, Int.reduceLT, Nat.reduceAdd, Nat.reduceBEq, Nat.reduceEqDiff, reduceIte, Nat.reduceLeDiff, Nat.reduceMul, Nat.reduceSub, reduceCtorEq]) (by simp only [keepL, and_true, and_self, go_sem, *, Nat.reduceLT, Int.reduceEq, Int.reduceBEq, Int.reduceLE, Int.reduceLT, Nat.reduceAdd, Nat.reduceBEq, Nat.reduceEqDiff, reduceIte, Nat.reduceLeDiff, Nat.reduceMul, Nat.reduceSub, reduceCtorEq]) ?_
    all_goals refine ⟨?_, ?_⟩
    all_goals first | exact Z2 | skip
    all_goals (rw [HNX.out, ← Bool.and_assoc, hq, Bool.false_and]; simp only [go_sem, *, Nat.reduceLT, Int.reduceEq, Int.reduceBEq, Int.reduceLE, Int.reduceLT, Nat.reduceAdd, Nat.reduceBEq, Nat.reduceEqDiff, reduceIte, Nat.reduceLeDiff, Nat.reduceMul, Nat.reduceSub, reduceCtorEq])
   | true =>
    rw [hq] at h18
    generalize hde : decide (mdG l k j ≥ mdG g k j) = de at *
    repeat' (first | (apply W.drawQ (id := 31) (l1 := [0, 1, 2, 3, 4, 5, 6, 7, 8, 9, 10, 11, 12, 13, 14, 15, 16, 17, 18, 19]) (l2 := []); kernel_rfl; kernel_rfl; kernel_rfl; exact Z4) | refine go1 ?_ | refine go2 (fun hh => ?_) (fun hh => ?_) | fail)
    all_goals refine contH_mk (by first | assumption | exact HLT1.out | exact HLT0.out) (by simp only [keepE, and_true, and_self, go_sem, *, Nat.reduceLT, Int.reduceEq, Int.reduceBEq, Int.reduceLE, Int.reduceLT, Nat.reduceAdd, Nat.reduceBEq, Nat.reduceEqDiff, reduceIte, Nat.reduceLeDiff, Nat.reduceMul, Nat.reduceSub, reduceCtorEq]) (by simp only [keepL, and_true, and_self, go_sem, *, Nat.reduceLT, Int.reduceEq, Int.reduceBEq, Int.reduceLE, Int.reduceLT, Nat.reduceAdd, Nat.reduceBEq, Nat.reduceEqDiff, reduceIte, Nat.reduceLeDiff, Nat.reduceMul, Nat.reduceSub, reduceCtorEq]) ?_
    all_goals refine ⟨?_, ?_⟩
    all_goals first | exact Z2 | skip
    all_goals (rw [HNX.out, ← Bool.and_assoc, hq, Bool.true_and]; simp only [go_sem, *, Nat.reduceLT, Int.reduceEq, Int.reduceBEq, Int.reduceLE, Int.reduceLT, Nat.reduceAdd, Nat.reduceBEq, Nat.reduceEqDiff, reduceIte, Nat.reduceLeDiff, Nat.reduceMul, Nat.reduceSub, reduceCtorEq])
  ·have hd1 : decide ((j : Int) < ((nn : Nat) : Int)) = false := by first | (simpa using hjt; done) | (simp only [decide_eq_false_iff_not]; omega)
   obtain rfl : j = nn := by omega
   have HNX := Lib.hid (geR_next l g j k)
   repeat' (first | refine goS ?_ | refine go2 (fun hh => ?_) (fun hh => ?_) | fail)
   all_goals refine contH_mk (by first | assumption | exact HLT0.out | exact HLT0.out) (by simp only [keepE, and_true, and_self, go_sem, *, Nat.reduceLT, Int.reduceEq, Int.reduceBEq, Int.reduceLE, Int.reduceLT, Nat.reduceAdd, Nat.reduceBEq, Nat.reduceEqDiff, reduceIte, Nat.reduceLeDiff, Nat.reduceMul, Nat.reduceSub, reduceCtorEq]) (by simp only [keepL, and_true, and_self, go_sem, *, Nat.reduceLT, Int.reduceEq, Int.reduceBEq, Int.reduceLE, Int.reduceLT, Nat.reduceAdd, Nat.reduceBEq, Nat.reduceEqDiff, reduceIte, Nat.reduceLeDiff, Nat.reduceMul, Nat.reduceSub, reduceCtorEq]) ?_
   all_goals refine ⟨?_, ?_⟩
   all_goals first | exact Z2 | skip
   all_goals (rw [HNX.out]; simp only [go_sem, *, Nat.reduceLT, Int.reduceEq, Int.reduceBEq, Int.reduceLE, Int.reduceLT, Nat.reduceAdd, Nat.reduceBEq, Nat.reduceEqDiff, reduceIte, Nat.reduceLeDiff, Nat.reduceMul, Nat.reduceSub, reduceCtorEq])
 ·have hd0 : decide ((k : Int) < ((R : Nat) : Int)) = false := by first | (simpa using hlt; done) | (simp only [decide_eq_false_iff_not]; omega)
  obtain rfl : k = R := by omega
  cases hq : geR l g nn k with
  | false =>
   rw [hq] at h18
   have hpos : decide ((0 : Int) < (k : Int)) = true := by have := HR.out; simp only [decide_eq_true_eq]; omega
   clear hq
   repeat' (first | refine goS ?_ | refine go2 (fun hh => ?_) (fun hh => ?_) | fail)
   refine W.loopH (0) [3, 9, 16, 18] [3] (fun j e1 lm1 => e1.get 21 = some (.int .i64 ↑j)) ?_ ?_
   ·first | exact Z2 | rfl | assumption | (simp [go_sem, *]; done)
   intro j e1 lm1 hk1 hce hcl hinv
   simp only [keepE, and_true] at hce
   obtain ⟨c3, c9, c16, c18⟩ := hce
   simp only [go_sem, *, Nat.reduceLT, Int.reduceEq, Int.reduceBEq, Int.reduceLE, Int.reduceLT, Nat.reduceAdd, Nat.reduceBEq, Nat.reduceEqDiff, reduceIte, Nat.reduceLeDiff, Nat.reduceMul, Nat.reduceSub, reduceCtorEq] at c3 c9 c16 c18
   simp only [keepL, and_true] at hcl
   have d3 := hcl
   clear hcl
   simp only [go_sem, *, Nat.reduceLT, Int.reduceEq, Int.reduceBEq, Int.reduceLE, Int.reduceLT, Nat.reduceAdd, Nat.reduceBEq, Nat.reduceEqDiff, reduceIte, Nat.reduceLeDiff, Nat.reduceMul, Nat.reduceSub, reduceCtorEq] at d3
   have h21 := hinv
   clear hinv
   by_cases hjt : j < 0
   ·have hd1 : decide ((j : Int) < ((0 : Nat) : Int)) = true := by first | (simpa using hjt; done) | (simp only [decide_eq_true_eq]; omega)
    have hv_1 := wrap_succ hjt (by unfold maxL; omega)
    exact absurd hjt (Nat.not_lt_zero _)
   ·have hd1 : decide ((j : Int) < ((0 : Nat) : Int)) = false := by first | (simpa using hjt; done) | (simp only [decide_eq_false_iff_not]; omega)
    obtain rfl : j = 0 := by omega
    repeat' (first | refine goS ?_ | (apply U6; exact Z1; exact Z1; (focus (simp only [List.nil_append, List.append_nil]; first | exact k22 _)); simp only [pM, pN, rR, rP]) | refine go2 (fun hh => ?_) (fun hh => ?_) | fail)
    all_goals (simp only [resV_def (X := dX cX16) Tryz.func16, Tryz.results16]; first | exact J5 | refine J6 ?_)
    all_goals rfl
  | true =>
   have hge := HGE.out hq
   have HGE2 := Lib.hid hge
   rw [hq] at h18
   clear hq hge
   repeat' (first | refine goS ?_ | refine go2 (fun hh => ?_) (fun hh => ?_) | fail)
   refine W.loopH (k) [3, 9, 16, 18] [3] (fun j e1 lm1 => e1.get 21 = some (.int .i64 ↑j)) ?_ ?_
   ·first | exact Z2 | rfl | assumption | (simp [go_sem, *]; done)
   intro j e1 lm1 hk1 hce hcl hinv
   simp only [keepE, and_true] at hce
   obtain ⟨c3, c9, c16, c18⟩ := hce
   simp only [go_sem, *, Nat.reduceLT, Int.reduceEq, Int.reduceBEq, Int.reduceLE, Int.reduceLT, Nat.reduceAdd, Nat.reduceBEq, Nat.reduceEqDiff, reduceIte, Nat.reduceLeDiff, Nat.reduceMul, Nat.reduceSub, reduceCtorEq] at c3 c9 c16 c18
   simp only [keepL, and_true] at hcl
   have d3 := hcl
   clear hcl
   simp only [go_sem, *, Nat.reduceLT, Int.reduceEq, Int.reduceBEq, Int.reduceLE, Int.reduceLT, Nat.reduceAdd, Nat.reduceBEq, Nat.reduceEqDiff, reduceIte, Nat.reduceLeDiff, Nat.reduceMul, Nat.reduceSub, reduceCtorEq] at d3
   have h21 := hinv
   clear hinv
   by_cases hjt : j < k
   ·have hd1 : decide ((j : Int) < ((k : Nat) : Int)) = true := by first | (simpa using hjt; done) | (simp only [decide_eq_true_eq]; omega)
    have hv_1 := wrap_succ hjt (by have := HR.out; unfold maxL; omega)
    obtain ⟨b1, p1, p2, p3, p4, p5⟩ := HZ.out j hjt
    obtain ⟨b2, p6, p7, p8, p9, p10⟩ := HX.out j hjt
    have P5 := Lib.hid p5
    have P10 := Lib.hid p10
    have HLT1 := Lib.hid hjt
    simp only [AV.cells] at p2 p7
    simp only [isTuple] at p3 p8
    clear p5 p10 hjt k22
    repeat' (first | refine goS ?_ | refine go2 (fun hh => ?_) (fun hh => ?_) | fail)
    refine W.loopH (nn) [3, 9, 16, 18, 21] [3] (fun z e2 lm2 => e2.get 22 = some (.int .i64 ↑z)) ?_ ?_
    ·first | exact Z2 | rfl | assumption | (simp [go_sem, *]; done)
    intro z e2 lm2 hk2 hce hcl hinv
    simp only [keepE, and_true] at hce
    obtain ⟨c3, c9, c16, c18, c21⟩ := hce
    simp only [go_sem, *, Nat.reduceLT, Int.reduceEq, Int.reduceBEq, Int.reduceLE, Int.reduceLT, Nat.reduceAdd, Nat.reduceBEq, Nat.reduceEqDiff, reduceIte, Nat.reduceLeDiff, Nat.reduceMul, Nat.reduceSub, reduceCtorEq] at c3 c9 c16 c18 c21
    simp only [keepL, and_true] at hcl
    have d3 := hcl
    clear hcl
    simp only [go_sem, *, Nat.reduceLT, Int.reduceEq, Int.reduceBEq, Int.reduceLE, Int.reduceLT, Nat.reduceAdd, Nat.reduceBEq, Nat.reduceEqDiff, reduceIte, Nat.reduceLeDiff, Nat.reduceMul, Nat.reduceSub, reduceCtorEq] at d3
    have h22 := hinv
    clear hinv
    by_cases hit : z < nn
    ·have hd2 : decide ((z : Int) < ((nn : Nat) : Int)) = true := by first | (simpa using hit; done) | (simp only [decide_eq_true_eq]; omega)
     have hv_2 := wrap_succ hit (by have := HN.out; unfold maxL; omega)
     have u1 := P5.out z hit
     have u2 := P10.out z hit
     have d1 := HGE2.out j z HLT1.out hit
     have HLT2 := Lib.hid hit
     clear hit
     generalize zz j z = z1 at *
     generalize xx j z = x1 at *
     repeat' (first | (apply W.drawQ (id := 38) (l1 := [0, 1, 2, 3, 4, 5, 6, 7, 8, 9, 10, 11, 12, 13, 14]) (l2 := []); kernel_rfl; kernel_rfl; kernel_rfl; exact Z4) | refine go1 ?_ | refine go2 (fun hh => ?_) (fun hh => ?_) | fail)
     all_goals refine contH_mk (by first | assumption | exact HLT2.out | exact HLT0.out) (by simp only [keepE, and_true, and_self, go_sem, *, Nat.reduceLT, Int.reduceEq, Int.reduceBEq, Int.reduceLE, Int.reduceLT, Nat.reduceAdd, Nat.reduceBEq, Nat.reduceEqDiff, reduceIte, Nat.reduceLeDiff, Nat.reduceMul, Nat.reduceSub, reduceCtorEq]) (by simp only [keepL, and_true, and_self, go_sem, *, Nat.reduceLT, Int.reduceEq, Int.reduceBEq, Int.reduceLE, Int.reduceLT, Nat.reduceAdd, Nat.reduceBEq, Nat.reduceEqDiff, reduceIte, Nat.reduceLeDiff, Nat.reduceMul, Nat.reduceSub, reduceCtorEq]) ?_
     all_goals first | exact Z2 | skip
    ·have hd2 : decide ((z : Int) < ((nn : Nat) : Int)) = false := by first | (simpa using hit; done) | (simp only [decide_eq_false_iff_not]; omega)
     obtain rfl : z = nn := by omega
     repeat' (first | refine goS ?_ | refine go2 (fun hh => ?_) (fun hh => ?_) | fail)
     all_goals refine contH_mk (by first | assumption | exact HLT1.out | exact HLT0.out) (by simp only [keepE, and_true, and_self, go_sem, *, Nat.reduceLT, Int.reduceEq, Int.reduceBEq, Int.reduceLE, Int.reduceLT, Nat.reduceAdd, Nat.reduceBEq, Nat.reduceEqDiff, reduceIte, Nat.reduceLeDiff, Nat.reduceMul, Nat.reduceSub, reduceCtorEq]) (by simp only [keepL, and_true, and_self, go_sem, *, Nat.reduceLT, Int.reduceEq, Int.reduceBEq, Int.reduceLE, Int.reduceLT, Nat.reduceAdd, Nat.reduceBEq, Nat.reduceEqDiff, reduceIte, Nat.reduceLeDiff, Nat.reduceMul, Nat.reduceSub, reduceCtorEq]) ?_
     all_goals first | exact Z2 | skip
   ·have hd1 : decide ((j : Int) < ((k : Nat) : Int)) = false := by first | (simpa using hjt; done) | (simp only [decide_eq_false_iff_not]; omega)
    obtain rfl : j = k := by omega
    repeat' (first | refine goS ?_ | (apply U6; exact Z1; exact Z1; (focus (simp only [List.nil_append, List.append_nil]; first | exact k22 _)); simp only [pM, pN, rR, rP]) | refine go2 (fun hh => ?_) (fun hh => ?_) | fail)
    all_goals (simp only [resV_def (X := dX cX16) Tryz.func16, Tryz.results16]; first | exact J5 | refine J6 ?_)
    all_goals rfl
end Go.AM
namespace Go.AM
open Go Go.Proofs
variable [Keep]
attribute [local irreducible] W WO WO1 WD WQ WT thenQ blockQ endR isRet retK Cl ClR
open Go.TX (Rm Fa Ha Hs)
attribute [local irreducible] houseB pathB airS failsH fitsB shapeB nowF rowF runsB drawnP knG rowK mdG geA geR
set_option maxHeartbeats 16000000 in
theorem T16a (e : Mp AV) (lm : Mp (Nat × List AV)) (hp : Heap) (ra fa oa ha dv ev xv : AV) (m : Hs) (nn : Nat) (t : Fl) (what num hour : Int) (g l : List (List Int)) (hA : HsA m ra fa oa ha) (hnn : m.hours = nn) (hb : houseB m = true) (hg : lisV dv = some g) (hl : lisV ev = some l) (s1 : ∀ r ∈ g, (r.length : Int) = m.hours) (s2 : g.length = m.rooms.length) (hf : fitsB m g = true) (htt : findF ⟨what, num, hour⟩ (failsH m) = some t)
  (ox : outV (some xv) = some xv)
  (hX : ∀ r, r < m.rooms.length → ∃ b, outV (some b) = some b ∧ b.cells = [b] ∧ isTuple b = false ∧ (∀ H, indexAddrV Tryz.prog H 36 xv (.int .i64 (r : Int)) = some (.vptr [b])) ∧ ∀ k, k < nn → ∀ H, indexAddrV Tryz.prog H 24 b (.int .i64 (k : Int)) = some (.vptr [.int .i64 (mdG (runG m t g) r k)]))
  (c2 : e.get 2 = some ev) (c3 : e.get 3 = some (.lptr 3 0 0)) (c4 : e.get 4 = some (.lptr 4 0 0)) (c9 : e.get 9 = some xv)
  (d3 : lm.get 3 = some (0, [.int .i64 nn, ra, fa, oa, ha])) (d4 : lm.get 4 = some (0, [dv, .int .i64 what, .int .i64 num, .int .i64 hour])) :
  W (dX cX16) (codeFrom Tryz.f16 7) (Fr.mk 16 false e lm hp [] none) (endR (dX cX16) 16 (isRet (.bool true))) := by
 have ho := house_ok hb
 have hn4 : nn ≤ 4 := by have := ho.hours; omega
 have hnt : m.hours.toNat = nn := by omega
 have hr3 : 0 < m.rooms.length ∧ m.rooms.length ≤ 3 := by have := ho.rooms; omega
 have o1 := sl_out hA.r
 have o2 := sl_out hA.f
 have o3 := sl_out hA.o
 have o4 := sl_out hA.h
 have od := lis_out hg
 have oe := lis_out hl
 obtain ⟨hcd, htd⟩ : dv.cells = [dv] ∧ isTuple dv = false := by obtain ⟨es, w1, _⟩ := lis_is hg; exact ⟨w1.cells, w1.tup⟩
 obtain ⟨hce, hte⟩ : ev.cells = [ev] ∧ isTuple ev = false := by obtain ⟨es, w1, _⟩ := lis_is hl; exact ⟨w1.cells, w1.tup⟩
 simp only [AV.cells] at hcd hce
 simp only [isTuple] at htd hte
 have k22 : ∀ h, Cl (dX cX16) 22 [] h (.ret (.bool true) h none) := fun h => K22 rfl h
 have n0 : ((0 : Int) != 0) = false := rfl
 have k66b := fun h => C66 (c := cX16) hc16 rfl m ⟨what, num, hour⟩ ra fa oa ha ev l hA hl h
 have HN := Lib.hid hn4
 have HR := Lib.hid hr3
 cases hs2 : sizedB m l ⟨what, num, hour⟩ with
 | false =>
  rw [hs2, hnn] at k66b
  clear hA hnn hb hg hl s1 s2 hf htt hX hs2 hnt hn4 hr3 ho
  repeat' (first | refine goS ?_ | (apply U6; exact Z1; exact Z1; (focus (simp only [List.nil_append, List.append_nil]; first | exact k66b _ | exact k22 _)); simp only [pM, pN, rR, rP]) | refine go2 (fun hh => ?_) (fun hh => ?_) | fail)
  all_goals (simp only [resV_def (X := dX cX16) Tryz.func16, Tryz.results16]; first | exact J5 | refine J6 ?_)
  all_goals rfl
 | true =>
  rw [hs2, hnn] at k66b
  obtain ⟨y1, y2, y3⟩ := sized_is hs2
  have k67b := fun h => C67 (c := cX16) hc16 rfl m ⟨what, num, hour⟩ ra fa oa ha ev l hA hl nn hnn (by omega) y2 (fun r hr => by have := y1 r hr; omega) h
  rw [hnn] at k67b
  cases hf2 : fitsB m l with
  | false =>
   rw [hf2] at k67b
   clear hA hnn hb hg hl s1 s2 hf htt hX hs2 y1 y2 y3 hf2 hnt hn4 hr3 ho
   repeat' (first | refine goS ?_ | (apply U6; exact Z1; exact Z1; (focus (simp only [List.nil_append, List.append_nil]; first | exact k66b _ | exact k67b _ | exact k22 _)); simp only [pM, pN, rR, rP]) | refine go2 (fun hh => ?_) (fun hh => ?_) | fail)
   all_goals (simp only [resV_def (X := dX cX16) Tryz.func16, Tryz.results16]; first | exact J5 | refine J6 ?_)
   all_goals rfl
  | true =>
   rw [hf2] at k67b
   have hss2 := sized_shape ho l ⟨what, num, hour⟩
   rw [hs2] at hss2
   replace hss2 := hss2.symm
   simp only [Bool.and_eq_true] at hss2
   have e4 := run_truth hb hf2 hss2.1 htt
   have k68z := fun h => K68 (X := dX cX16) rfl hA hl ⟨what, num, hour⟩ h
   rw [e4, hnn] at k68z
   have q3 := runG_ok ho t hf2 y2
   have li3 := rows_lis (g := runG m t l) (by rw [q3.len]; unfold maxL; omega) fun l hl => by rw [q3.row l hl, hnt]; unfold maxL; omega
   have k70z := fun h => C70 (c := cX16) rfl m ra fa oa ha _ _ hA ho li3 q3 h
   rw [hnn] at k70z
   have ls3 := lis_len li3
   rw [q3.len] at ls3
   have oz := lis_out li3
   have hZ := fun (r : Nat) (hr : r < m.rooms.length) => lis_row li3 (r := r) (n := nn) (by rw [q3.len]; exact hr) (fun l hl => by rw [q3.row l hl]; exact hnt)
   have hD := fun (r : Nat) (hr : r < m.rooms.length) => lis_row hg (r := r) (n := nn) (by rw [s2]; exact hr) (fun l hl => by have := s1 l hl; omega)
   have hE := fun (r : Nat) (hr : r < m.rooms.length) => lis_row hl (r := r) (n := nn) (by rw [y2]; exact hr) (fun l hl => by have := y1 l hl; omega)
   have lse := lis_len hl
   rw [y2] at lse
   have hmd := fun r k => md_ok ho hf s2 r k
   have hvx : ∀ r k, r < m.rooms.length → k < nn → mdG (runG m t g) r k = nowF m t r (mdG g r) (k + 1) := fun r k h1 h2 => by
    have := run_at (m := m) (f := t) (g := g) h1 (by rw [hnt]; exact h2)
    unfold mdG at this ⊢
    exact this
   have hvz : ∀ r k, r < m.rooms.length → k < nn → mdG (runG m t l) r k = nowF m t r (mdG l r) (k + 1) := fun r k h1 h2 => by
    have := run_at (m := m) (f := t) (g := l) h1 (by rw [hnt]; exact h2)
    unfold mdG at this ⊢
    exact this
   have hge : geR l g nn m.rooms.length = true → ∀ r k, r < m.rooms.length → k < nn → decide (mdG (runG m t l) r k < mdG (runG m t g) r k) = false := fun hq r k h1 h2 => by
    rw [hvx r k h1 h2, hvz r k h1 h2]
    simp only [decide_eq_false_iff_not, Int.not_lt]
    exact now_mono ho t r (hmd r) (fun k => md_ok ho hf2 y2 r k) (k + 1) (by omega) fun j hj => geR_is hq h1 (by omega)
   have HX := Lib.hid hX
   have HZ := Lib.hid hZ
   have HD := Lib.hid hD
   have HE := Lib.hid hE
   have HGE := Lib.hid hge
   clear hA hnn hb hg hl s1 s2 hf htt hX hs2 y1 y2 y3 hf2 hnt hn4 hr3 ho hss2 e4 q3 li3 hZ hD hE hmd hvx hvz hge
   generalize slN (rowsE (runG m t l)) = zv at *
   repeat' (first | (exact T16b _ _ _ ra fa oa ha dv ev xv zv nn m.rooms.length what num hour g l (mdG (runG m t g)) (mdG (runG m t l)) HN.out HR.out od oe ox oz lse ls3 HE.out HD.out HX.out HZ.out HGE.out Z2 Z2 Z2 Z2 Z2 Z2 Z2) | refine go1 ?_ | (apply U6; exact Z1; exact Z1; (focus (simp only [List.nil_append, List.append_nil]; first | exact k66b _ | exact k67b _ | exact k68z _ | exact k70z _)); simp only [pM, pN, rR, rP]) | refine go2 (fun hh => ?_) (fun hh => ?_) | fail)
end Go.AM
