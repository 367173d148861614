/-
  A part of the proof: contracts of functions.
-/
import Derived.Test.YtgihdicidaipmaaGreatDoorRAW
import Derived.Test.YtgihdicidaipmaaGreatDoorRAV
import Derived.Test.YtgihdicidaipmaaGreatDoorRBD
import Derived.Test.YtgihdicidaipmaaGreatDoorRBF
set_option linter.unusedSectionVars false
set_option linter.unusedVariables false
set_option linter.unusedSimpArgs false
set_option maxRecDepth 100000
set_option maxHeartbeats 16000000
namespace Go.AM
open Go Go.Proofs
variable [Keep]
attribute [local irreducible] W WO WO1 WD WQ WT thenQ blockQ endR isRet retK Cl ClR
section
attribute [local irreducible] natsE bestN nodeW okW leadF clearB goneB bfrB shortB
noncomputable def c9 : Itr
 | 21 => some (pureFn sp21)
 | 48 => some (pureFn sp48)
 | 49 => some (pureFn sp49)
 | 50 => some (newQ sp50)
 | 51 => some (pureFn sp51)
 | 52 => some (pureFn sp52)
 | _ => none
theorem K21 {X : Ctx} (hX : X.intr 21 = some (pureFn sp21)) (h : Heap) : Cl X 21 [] h (.ret (.bool true) h none) := Cl.intr hX rfl
end
section
open Go.Mo7 (insR insP)
theorem lis_zero {s : Nat} (hs : s < 64) (h : lisN s 6 = []) : s = 0 := by
 refine Nat.eq_of_testBit_eq fun i => ?_
 rw [Nat.zero_testBit]
 by_cases hi : i < 6
 ·cases hb : s.testBit i with
  | false => rfl
  | true =>
   have : i ∈ lisN s 6 := by
    unfold lisN
    exact List.mem_filter.2 ⟨List.mem_range.2 hi, hb⟩
   rw [h] at this
   cases this
 ·exact Nat.testBit_lt_two_pow (Nat.lt_of_lt_of_le hs (by
   have : (2 : Nat) ^ 6 <= 2 ^ i := Nat.pow_le_pow_right (by omega) (by omega)
   omega))
theorem lis_empty : lisN 0 6 = [] := by
 unfold lisN
 simp
theorem house_same {ls : List Ln} {p q : Nat -> Bool} (h : ∀ k, p k = q k) : ∀ n, houseF ls p n = houseF ls q n := fun n => by rw [show p = q from funext h]
theorem num_at {l : List Md} {m : Int} (h : numB l m = true) : ∃ (n : Nat) (d : Md), m = (n : Int) /\ l[n]? = some d := by
 unfold numB inB at h
 rw [Bool.and_eq_true, decide_eq_true_eq, decide_eq_true_eq] at h
 obtain ⟨d, hd⟩ := get_some (l := l) (k := m.toNat) (by omega)
 exact ⟨m.toNat, d, by omega, hd⟩
theorem book_md {b : Bk} (hbk : bookB b = true) (hmx : b.moulds.length <= maxL) {n : Nat} {d : Md} (hd : b.moulds[n]? = some d) : lnsOk d.loans /\ d.loans.length <= 3 := by
 unfold bookB at hbk
 simp only [Bool.and_eq_true] at hbk
 have hn := (List.getElem?_eq_some_iff.1 hd).1
 have h1 := (bookP_at hbk.2 hn hd).1
 have h2 := mdOk_parts (n := n) (by omega) h1
 exact ⟨h2.2.2.2.2.2.2.2.2, h2.2.2.2.2.2.2.1.2⟩
theorem mdAt_is {b : Bk} {n : Nat} {d : Md} (hd : b.moulds[n]? = some d) : mdAt b (n : Int) = d := by
 unfold mdAt
 rw [Int.toNat_natCast, List.getD_eq_getElem?_getD, hd]
 rfl
attribute [local irreducible] natsE houseF lisN bookB allDays shortB numB inB insR insP
noncomputable def c4 : Itr
 | 21 => some (pureFn sp21)
 | 48 => some (pureFn sp48)
 | 24 => some (pureFn sp24)
 | 25 => some (pureFn sp25)
 | 27 => some (newQ sp27)
 | 29 => some (flatFn sp29)
 | 81 => some (pureFn sp81)
 | 133 => some (pureFn sp133)
 | _ => none
theorem c4_sound : Sound (dX c4) := dX_sound (fun f g h => by
 unfold c4 at h
 split at h
 ·cases h; exact F21
 ·cases h; exact F48
 ·cases h; exact F24
 ·cases h; exact F25
 ·cases h; exact F27
 ·cases h; exact F29
 ·cases h; exact F81
 ·cases h; exact F133
 ·cases h)
theorem T4 (sa : AV) (b : Bk) (m s : Int) (v : MdsI sa b.moulds) : ClR (dX c4) 4 [.agg [.int .i64 b.miss, .int .i64 b.ghost, sa], .int .i64 m, .int .i64 s] emptyHp (isRet (.bool true)) := by
 have os := v.out
 have k21 : ∀ h, Cl (dX c4) 21 [] h (.ret (.bool true) h none) := fun h => K21 rfl h
 have k20 := fun h => C20I (c := c4) rfl b sa v h
 have q0 : ((0 : Int) == 0) = true := rfl
 have q2 : ((2 : Int) == 2) = true := rfl
 have z0 : ((((0 : Nat) : Int)) == 0) = true := rfl
 have q7 : ((7 : Int) == 7) = true := rfl
 have q5 : ((5 : Int) == 5) = true := rfl
 have n0 : ((0 : Int) != 0) = false := rfl
 have n2 : ((2 : Int) != 0) = true := rfl
 have n7 : ((7 : Int) != 0) = true := rfl
 cases gs : shortB b with
 | false =>
  rw [gs] at k20
  clear v gs
  refine wK rfl Tryz.func4 rfl isRet_fail ?_
  repeat' (first | refine goS ?_ | refine uJ (k20 _) ?_ | refine uJ (k21 _) ?_ | (refine go2 ?_ ?_ <;> intro hh) | fail)
  all_goals (simp only [rV Tryz.func4, Tryz.results4]; first | exact J5 | refine J6 ?_)
 | true =>
  have hb := short_bk v gs
  rw [gs] at k20
  obtain ⟨sa', e, hm⟩ := bk_is hb
  have e := AV.agg.inj e
  simp only [List.cons.injEq, and_true, true_and] at e
  subst e
  have k24 := fun h => K24 (X := dX c4) rfl hb m h
  have k25 := fun h => K25 (X := dX c4) rfl s h
  have k27 := fun h => K27 (X := dX c4) rfl hb m s h
  have k23 := fun is h => C23 (c := c4) rfl rfl rfl rfl hb hm is h
  cases hn : numB b.moulds m with
  | false =>
   have e1 : hadV b m s = .tuple [.nilslice, .int .i64 2] := by unfold hadV; rw [hn]; simp
   have e2 : askI b false = 2 := by unfold askI; simp
   have k23 := k23 false
   rw [e1] at k27
   rw [e2] at k23
   rw [hn] at k24
   clear v gs hb hm hn e1 e2
   refine wK rfl Tryz.func4 rfl isRet_fail ?_
   repeat' (first | (apply W.drawQ (id := 4) (l1 := [0, 1, 2, 3, 4, 5, 6, 7, 8, 9]) (l2 := []); kernel_rfl; kernel_rfl; kernel_rfl; exact Z4) | refine go1 ?_ | refine uJ (k20 _) ?_ | refine uJ (k21 _) ?_ | refine uJ (k23 _) ?_ | refine uJ (k24 _) ?_ | refine uJ (k27 _) ?_ | (refine go2 ?_ ?_ <;> intro hh) | fail)
   all_goals (simp only [rV Tryz.func4, Tryz.results4]; first | exact J5 | refine J6 ?_)
  | true =>
   rw [hn] at k24
   cases hs : inB s 1 36 with
   | false =>
    have e1 : hadV b m s = .tuple [.nilslice, .int .i64 2] := by unfold hadV; rw [hn, hs]; simp
    have e2 : askI b false = 2 := by unfold askI; simp
    have k23 := k23 false
    rw [e1] at k27
    rw [e2] at k23
    rw [hs] at k25
    clear v gs hb hm hn hs e1 e2
    refine wK rfl Tryz.func4 rfl isRet_fail ?_
    repeat' (first | (apply W.drawQ (id := 4) (l1 := [0, 1, 2, 3, 4, 5, 6, 7, 8, 9]) (l2 := []); kernel_rfl; kernel_rfl; kernel_rfl; exact Z4) | refine go1 ?_ | refine uJ (k20 _) ?_ | refine uJ (k21 _) ?_ | refine uJ (k23 _) ?_ | refine uJ (k24 _) ?_ | refine uJ (k25 _) ?_ | refine uJ (k27 _) ?_ | (refine go2 ?_ ?_ <;> intro hh) | fail)
    all_goals (simp only [rV Tryz.func4, Tryz.results4]; first | exact J5 | refine J6 ?_)
   | true =>
    rw [hs] at k25
    have k23 := k23 true
    cases hbk : bookB b with
    | false =>
     have e1 : hadV b m s = .tuple [.nilslice, .int .i64 2] := by unfold hadV; rw [hbk]; simp
     have e2 : askI b true = 2 := by unfold askI; rw [hbk]; simp
     rw [e1] at k27
     rw [e2] at k23
     clear v gs hb hm hn hs hbk e1 e2
     refine wK rfl Tryz.func4 rfl isRet_fail ?_
     repeat' (first | (apply W.drawQ (id := 4) (l1 := [0, 1, 2, 3, 4, 5, 6, 7, 8, 9]) (l2 := []); kernel_rfl; kernel_rfl; kernel_rfl; exact Z4) | refine go1 ?_ | refine uJ (k20 _) ?_ | refine uJ (k21 _) ?_ | refine uJ (k23 _) ?_ | refine uJ (k24 _) ?_ | refine uJ (k25 _) ?_ | refine uJ (k27 _) ?_ | (refine go2 ?_ ?_ <;> intro hh) | fail)
     all_goals (simp only [rV Tryz.func4, Tryz.results4]; first | exact J5 | refine J6 ?_)
    | true =>
     cases had : allDays b.moulds with
     | false =>
      have e1 : hadV b m s = .tuple [.nilslice, .int .i64 7] := by unfold hadV; rw [hbk, hn, hs, had]; simp
      have e2 : askI b true = 7 := by unfold askI; rw [hbk, had]; simp
      rw [e1] at k27
      rw [e2] at k23
      clear v gs hb hm hn hs hbk had e1 e2
      refine wK rfl Tryz.func4 rfl isRet_fail ?_
      repeat' (first | (apply W.drawQ (id := 4) (l1 := [0, 1, 2, 3, 4, 5, 6, 7, 8, 9]) (l2 := []); kernel_rfl; kernel_rfl; kernel_rfl; exact Z4) | refine go1 ?_ | refine uJ (k20 _) ?_ | refine uJ (k21 _) ?_ | refine uJ (k23 _) ?_ | refine uJ (k24 _) ?_ | refine uJ (k25 _) ?_ | refine uJ (k27 _) ?_ | (refine go2 ?_ ?_ <;> intro hh) | fail)
      all_goals (simp only [rV Tryz.func4, Tryz.results4]; first | exact J5 | refine J6 ?_)
     | true =>
      have e2 : askI b true = 0 := by unfold askI; rw [hbk, had]; simp
      rw [e2] at k23
      obtain ⟨n, d, rfl, hd⟩ := num_at hn
      obtain ⟨ok, h3⟩ := book_md hbk hm.max hd
      have hsi : 1 <= s := by
       unfold inB at hs
       rw [Bool.and_eq_true, decide_eq_true_eq] at hs
       exact hs.1
      have hho := house_same (ls := d.loans) (p := fun i => insP (lns7 d.loans) i s) (q := fun i => insR (lns7 d.loans) i s) (fun k => Go.Mo7.ins_same (l7_ok ok) k hsi) d.loans.length
      have e1 : hadV b (n : Int) s = if houseF d.loans (fun i => insR (lns7 d.loans) i s) d.loans.length = 0 then .tuple [.nilslice, .int .i64 5] else .tuple [slN (natsE (lisN (houseF d.loans (fun i => insR (lns7 d.loans) i s) d.loans.length) 6)), .int .i64 0] := by
       unfold hadV
       rw [hbk, hn, hs, had, mdAt_is hd, hho, lis63 (houseF_lt ok _ _)]
       simp
      have h64 := houseF_lt ok (fun i => insR (lns7 d.loans) i s) d.loans.length
      have k28 := C28 (c := c4) rfl rfl rfl rfl rfl rfl b.miss b.ghost sa b.moulds hm n d hd ok h3 s emptyHp
      generalize houseF d.loans (fun i => insR (lns7 d.loans) i s) d.loans.length = H at *
      unfold ClR at k28
      obtain ⟨r, k28, ⟨bn, bm⟩, w, hx1, rfl, hB⟩ := k28
      have wo := hB.blt.out
      have wl := hB.blt.len
      have wc := hB.blt.cells
      have wt := hB.blt.tup
      rw [natsE_len] at wl
      simp only [AV.cells] at wc
      simp only [isTuple] at wt
      by_cases hH : H = 0
      ·rw [if_pos hH] at e1
       rw [e1] at k27
       rw [hH, lis_empty] at wl
       have wl : lenS w = some 0 := wl
       clear v gs hb hm hn hs hbk had e1 e2 hho h64 hx1 hB hd ok
       refine wK rfl Tryz.func4 rfl isRet_fail ?_
       repeat' (first | (apply W.drawQ (id := 4) (l1 := [0, 1, 2, 3, 4, 5, 6, 7, 8, 9]) (l2 := []); kernel_rfl; kernel_rfl; kernel_rfl; exact Z4) | refine go1 ?_ | refine uJ (k20 _) ?_ | refine uJ (k21 _) ?_ | refine uJ (k23 _) ?_ | refine uJ (k24 _) ?_ | refine uJ (k25 _) ?_ | refine uJ (k27 _) ?_ | refine uJ k28 ?_ | (refine go2 ?_ ?_ <;> intro hh) | fail)
       all_goals (simp only [rV Tryz.func4, Tryz.results4]; first | exact J5 | refine J6 ?_)
      ·rw [if_neg hH] at e1
       rw [e1] at k27
       have hlen := lisN_len H 6
       have hne : (((lisN H 6).length : Int) == 0) = false := by
        rw [beq_eq_false_iff_ne]
        intro h0
        refine hH (lis_zero h64 ?_)
        cases hq : lisN H 6 with
        | nil => rfl
        | cons a r => rw [hq] at h0; simp only [List.length_cons] at h0; omega
       have hsl : slV intC (slN (natsE (lisN H 6))) = some (intsN (lisN H 6)) := nats_sl (by unfold maxL; omega)
       have k29 := K29 (X := dX c4) rfl (SeeV.of hsl ⟨bn, bm⟩) (see_nats hB.blt (by unfold maxL; omega))
       have hdd : decide (intsN (lisN H 6) = intsN (lisN H 6)) = true := by simp
       rw [hdd] at k29
       have lo := sl_out hsl
       have ll := sl_len hsl
       have lc := (slV_is hsl).1.cells
       have lt := (slV_is hsl).1.tup
       simp only [AV.cells] at lc
       simp only [isTuple] at lt
       have eln : (intsN (lisN H 6)).length = (lisN H 6).length := by unfold intsN; rw [List.length_map]
       rw [eln] at ll
       clear v gs hb hm hn hs hbk had e1 e2 hho h64 hx1 hB hd ok hsl hlen hdd eln
       generalize slN (natsE (lisN H 6)) = lv at *
       generalize (lisN H 6).length = N at *
       refine wK rfl Tryz.func4 rfl isRet_fail ?_
       repeat' (first | (apply W.drawQ (id := 4) (l1 := [0, 1, 2, 3, 4, 5, 6, 7, 8, 9]) (l2 := []); kernel_rfl; kernel_rfl; kernel_rfl; exact Z4) | refine go1 ?_ | refine uJ (k20 _) ?_ | refine uJ (k21 _) ?_ | refine uJ (k23 _) ?_ | refine uJ (k24 _) ?_ | refine uJ (k25 _) ?_ | refine uJ (k27 _) ?_ | refine uJ k28 ?_ | refine uJ k29 ?_ | (refine go2 ?_ ?_ <;> intro hh) | fail)
       all_goals (simp only [rV Tryz.func4, Tryz.results4]; first | exact J5 | refine J6 ?_)
end
end Go.AM
