/-
  A part of the proof: contracts of functions.
-/
import Derived.Test.YtkpbdjpekjdhcaaGreatDoorRBF
set_option linter.unusedSectionVars false
set_option linter.unusedVariables false
set_option linter.unusedSimpArgs false
set_option maxRecDepth 100000
namespace Go.AM
open Go Go.Proofs
variable [Keep]
attribute [local irreducible] W WO WO1 WD WQ WT thenQ blockQ endR isRet retK Cl ClR
open Go.TX (Rm Fa Ha Hs mapO mapO_len)
attribute [local irreducible] roundQ RdR
theorem foldS_all {α σ : Type} (f : σ → α → σ) : ∀ (l : List α) (s : σ), foldS (fun y s => (f s y, true)) l s = (l.foldl f s, true)
 | [], s => rfl
 | a :: l, s => by
  simp only [foldS, if_true, List.foldl_cons]
  exact foldS_all f l (f s a)
theorem pth_blt {h : Heap} {a : AV} {p : List Int} (b : Blt h a 1 (intsE p)) (hm : p.length ≤ maxL) : pthV h a = some p := by
 rcases b with ⟨rfl, e⟩ | ⟨id, rfl, h1, h2, h3⟩
 ·have : p = [] := by
   have := congrArg List.length e
   rw [intsE_len] at this
   exact List.length_eq_zero_iff.1 this
  subst this
  rfl
 ·have hs := ints_sl p hm
  have hvs : slN (intsE p) = .vslice (intsE p) := by
   cases hq : intsE p with
   | nil => exact absurd hq h3
   | cons a r => rfl
  rw [hvs] at hs
  simp only [pthV, h1, List.drop_zero, Nat.zero_add, Nat.le_refl, and_self, if_true]
  rw [List.take_of_length_le (Nat.le_refl _)]
  exact hs
def twoI (a b nn : Nat) (s : Bool × List Int) (h : Heap) : Prop := h.get a = some (.var [.bool s.1]) ∧ h.get b = some (.rw 1 (intsE s.2)) ∧ a < h.next ∧ b < h.next ∧ s.2.length = nn ∧ O16 s.2
def twoO (a b : Nat) (_ : Heap) (id : Nat) : Prop := id = a ∨ id = b
theorem two_ok (a b nn : Nat) : OwnOk (twoI a b nn) (twoO a b) := by
 refine ⟨fun s h h' i x => ⟨?_, fun id ho => ho⟩, fun s h h' L i no _ hn hg => ⟨?_, fun id ho => ho⟩, fun s h id i ho => ?_⟩
 ·obtain ⟨i1, i2, i3, i4, i5⟩ := i
  exact ⟨(x.2 a i3).trans i1, (x.2 b i4).trans i2, Nat.lt_of_lt_of_le i3 x.1, Nat.lt_of_lt_of_le i4 x.1, i5⟩
 ·obtain ⟨i1, i2, i3, i4, i5⟩ := i
  exact ⟨(hg a (fun e => no (.inl e.symm))).trans i1, (hg b (fun e => no (.inr e.symm))).trans i2, by rw [hn]; exact i3, by rw [hn]; exact i4, i5⟩
 ·obtain ⟨i1, i2, i3, i4, i5⟩ := i
  rcases ho with rfl | rfl
  ·exact i3
  ·exact i4
attribute [local irreducible] houseB pathB airS failsH hasB allP orI bitI
noncomputable def cRH : Itr
 | 82 => some (flatFnD sp82)
 | 102 => some (pureFn sp102)
 | 104 => some go104
 | 136 => some (pureFn sp136)
 | 137 => some (pureFn sp137)
 | _ => none
theorem cRH_sound : Sound (dX cRH) := dX_sound (fun f g h => by
 unfold cRH at h
 split at h
 ·cases h; exact F82D
 ·cases h; exact F102
 ·cases h; exact F104
 ·cases h; exact F136
 ·cases h; exact F137
 ·cases h)
theorem hdRH : CxD cRH := ⟨rfl, rfl, rfl, rfl, rfl⟩
def wP (m : Hs) (seen off : Int) : Bool × List Int := wAll fP m seen off (allP m.rooms.length m.hours.toNat) m.hours.toNat
def whereV (m : Hs) (seen off : Int) : AV := if (houseB m && inB seen 0 2000 && inB off 0 100) = true then (if (wP m seen off).1 = true then .tuple [slN (intsE (wP m seen off).2), .int .i64 0] else .tuple [.nilslice, .int .i64 5]) else .tuple [.nilslice, .int .i64 2]
def sp31 : List AV → Option AV
 | [x, .int .i64 seen, .int .i64 off] => (hsV x).map fun m => whereV m seen off
 | _ => none
theorem p31 : ∀ args v, sp31 args = some v → v.pur = true := by
 intro args v h
 unfold sp31 at h
 split at h
 ·rename_i x seen off
  cases hm : hsV x with
  | none => rw [hm] at h; cases h
  | some m =>
   rw [hm] at h
   have h := Option.some.inj h
   subst h
   show (whereV m seen off).pur = true
   unfold whereV
   split
   ·split
    ·simp only [AV.pur, AV.purL, intsE_pur', Bool.and_self]
    ·rfl
   ·rfl
 ·cases h
set_option maxHeartbeats 32000000 in
theorem R31 (m : Hs) (ra fa oa ha : AV) (seen off : Int) (hm : HsA m ra fa oa ha) : ClR (dX cRH) 31 [.agg [.int .i64 m.hours, ra, fa, oa, ha], .int .i64 seen, .int .i64 off] emptyHp (isRet (whereV m seen off)) := by
 have o1 := sl_out hm.r
 have o2 := sl_out hm.f
 have o3 := sl_out hm.o
 have o4 := sl_out hm.h
 have k82 := fun h => K82p (X := dX cRH) rfl hm h
 have k102 := fun h => K102 (X := dX cRH) rfl seen 0 2000 h
 have k102b := fun h => K102 (X := dX cRH) rfl off 0 100 h
 unfold whereV
 cases hb : houseB m with
 | false =>
  rw [hb] at k82
  simp only [Bool.false_and, Bool.false_eq_true, if_false]
  clear hm hb
  refine ClR.walk (c := _) rfl Tryz.func31 rfl (by kernel_rfl) rfl isRet_fail ?_
  try simp only [entryEnv, Nat.reduceAdd, List.nil_append, List.cons_append, emptyHp]
  repeat' (first | refine goS ?_ | (apply U6; exact Z1; exact Z1; (focus (simp only [List.nil_append, List.append_nil]; first | exact k82 _)); simp only [pM, pN, rR, rP]) | refine go2 (fun hh => ?_) (fun hh => ?_) | fail)
  all_goals (simp only [resV_def (X := dX cRH) Tryz.func31, Tryz.results31]; first | exact J5 | refine J6 ?_)
  all_goals rfl
 | true =>
  rw [hb] at k82
  cases hs1 : inB seen 0 2000 with
  | false =>
   rw [hs1] at k102
   simp only [Bool.and_false, Bool.false_and, Bool.false_eq_true, if_false]
   clear hm hb hs1
   refine ClR.walk (c := _) rfl Tryz.func31 rfl (by kernel_rfl) rfl isRet_fail ?_
   try simp only [entryEnv, Nat.reduceAdd, List.nil_append, List.cons_append, emptyHp]
   repeat' (first | refine goS ?_ | (apply U6; exact Z1; exact Z1; (focus (simp only [List.nil_append, List.append_nil]; first | exact k82 _ | exact k102 _)); simp only [pM, pN, rR, rP]) | refine go2 (fun hh => ?_) (fun hh => ?_) | fail)
   all_goals (simp only [resV_def (X := dX cRH) Tryz.func31, Tryz.results31]; first | exact J5 | refine J6 ?_)
   all_goals rfl
  | true =>
   rw [hs1] at k102
   cases hs2 : inB off 0 100 with
   | false =>
    rw [hs2] at k102b
    simp only [Bool.and_false, Bool.false_eq_true, if_false]
    clear hm hb hs1 hs2
    refine ClR.walk (c := _) rfl Tryz.func31 rfl (by kernel_rfl) rfl isRet_fail ?_
    try simp only [entryEnv, Nat.reduceAdd, List.nil_append, List.cons_append, emptyHp]
    repeat' (first | refine goS ?_ | (apply U6; exact Z1; exact Z1; (focus (simp only [List.nil_append, List.append_nil]; first | exact k82 _ | exact k102 _ | exact k102b _)); simp only [pM, pN, rR, rP]) | refine go2 (fun hh => ?_) (fun hh => ?_) | fail)
    all_goals (simp only [resV_def (X := dX cRH) Tryz.func31, Tryz.results31]; first | exact J5 | refine J6 ?_)
    all_goals rfl
   | true =>
    rw [hs2] at k102b
    simp only [Bool.and_self, if_true]
    have ho := house_ok hb
    obtain ⟨nn, hnn, hnt, hn1, hn4, hol⟩ := ho_parts ho
    have hr3 := ho.rooms
    have hd := C83 hdRH m ra fa oa ha hm ho 2 (((Mp.nil : Mp Blk).set 0 (.var [.int .i64 seen])).set 1 (.var [.int .i64 off]))
    unfold ClR dayR at hd
    obtain ⟨_, hcl, ⟨dn, dm⟩, a, mid, l, rfl, hx, hsl, hg, hl, hmid⟩ := hd
    have lra := sl_len hm.r
    have oa5 := sl_out hsl
    have c1 := (slV_is hm.r).1.frz1
    have k87 := C87 (c := cRH) rfl m.hours ra fa oa ha (.func (.func 103) [] []) o1 o2 o3 o4 rfl rfl rfl
    have hmost := hn4
    have g0 : dm.get 0 = some (.var [.int .i64 seen]) := by
     have := hx.2 0 (by simp only; omega)
     simp only [hp_get] at this
     rw [this]
     simp
    have g1 : dm.get 1 = some (.var [.int .i64 off]) := by
     have := hx.2 1 (by simp only; omega)
     simp only [hp_get] at this
     rw [this]
     simp
    have hdn : 2 ≤ dn := hx.1
    have hmd : mid < dn := hmid
    have h104 := fun (pa : AV) (p : List Int) (h : Heap) (hg' : h.get mid = some (.mp (entE m l))) (hp : pthV h pa = some p) (hq : pathB m p = true) => K104d (X := dX cRH) rfl ho (z1 := ra) (z2 := fa) (z3 := oa) (z4 := ha) hsl hg' hl hp hq
    have hpq : ∀ p, p.length = nn → PLt m.rooms.length p → pathB m p = true := fun p q1 q2 => by
     unfold pathB
     rw [q1, Bool.and_eq_true, List.all_eq_true]
     refine ⟨by rw [hnn]; simp, fun x hx => ?_⟩
     rw [w64_small (by omega) (by omega), inB_iff]
     have := q2 x hx
     omega
    have hskip : ∀ s : Int × Int, (decide (s.1 > IntKind.i64.wrap (seen + off)) || decide (s.2 < IntKind.i64.wrap (seen - off))) = !agrB s seen off := fun s => by
     unfold agrB w64
     rw [Bool.not_and]
     congr 1
     ·rw [Bool.eq_iff_iff]; simp only [decide_eq_true_eq, Bool.not_eq_true', decide_eq_false_iff_not]; omega
     ·rw [Bool.eq_iff_iff]; simp only [decide_eq_true_eq, Bool.not_eq_true', decide_eq_false_iff_not]; omega
    have H104 := Lib.hid h104
    have HPQ := Lib.hid hpq
    have HSK := Lib.hid hskip
    have HG := Lib.hid hg
    have HN1 := Lib.hid hn1
    have HR3 := Lib.hid hr3
    have HMD := Lib.hid hmd
    have HDN := Lib.hid hdn
    have HHM := Lib.hid hm
    unfold wP wAll
    rw [hnt]
    rw [hnn] at hcl k82 k87 ⊢
    rw [hnn] at h104
    have H104 := Lib.hid h104
    clear hm hb hs1 hs2 ho hnn hnt hn1 hn4 hol hr3 hx hsl hg hl hmid hdn hmd h104 hpq hskip
    generalize hrl : m.rooms.length = rl at *
    have HRL := Lib.hid hrl
    clear hrl
    obtain ⟨a1, a2, a3, a4, a5, a6, a7, a8⟩ := offs dn
    obtain ⟨e1, e2, e3, e4, e5, e6, e7, e8⟩ := offs (dn + 1)
    obtain ⟨i1, i2, i3, i4, i5, i6, i7, i8⟩ := offs (dn + 1 + 1)
    obtain ⟨j1, j2, j3, j4, j5, j6, j7, j8⟩ := offs (dn + 1 + 1 + 1)
    refine ClR.walk (c := _) rfl Tryz.func31 rfl (by kernel_rfl) rfl isRet_fail ?_
    try simp only [entryEnv, Nat.reduceAdd, List.nil_append, List.cons_append, emptyHp]
    repeat' (first | (apply WO1.make24 (n := nn); (focus (first | exact Z2 | exact Z1)); (focus (first | exact Z2 | exact Z1)); (focus (exact hmost)); simp only [pM, pN]) | refine go1 ?_ | (apply U6; exact Z1; exact Z1; (focus (simp only [List.nil_append, List.append_nil]; first | exact k82 _ | exact k102 _ | exact k102b _ | exact hcl | exact k87 _ _)); simp only [pM, pN, rR, rP]) | refine go2 (fun hh => ?_) (fun hh => ?_) | fail)
    obtain ⟨mm, hmm⟩ : ∃ mm, mm = ((((((((dm.set dn (.var [.int .i64 0, .nilslice, .nilslice, .nilslice, .nilslice, .nilslice, .nilmap])).set dn (.var [.int .i64 ↑nn, ra, fa, oa, ha, a, .map mid])).set (dn + 1) (.rw 1 (List.replicate nn (.int .i64 0)))).set (dn + 1 + 1) (.var [.nilslice])).set (dn + 1 + 1) (.var [.row (dn + 1) 0 nn])).set (dn + 1 + 1 + 1) (.var [.bool false])).set (dn + 1 + 1 + 1) (.var [.bool false])).set (dn + 1 + 1 + 1 + 1) (.var [.int .i64 ↑nn, ra, fa, oa, ha])).set (dn + 1 + 1 + 1 + 1 + 1) (.var [.func (.func 103) [] []]) := ⟨_, rfl⟩
    rw [← hmm]
    have m0 : mm.get 0 = some (.var [.int .i64 seen]) := by
     have := HDN.out
     rw [hmm]
     repeat rw [Mp.get_set, if_neg (by omega)]
     exact g0
    have m1 : mm.get 1 = some (.var [.int .i64 off]) := by
     have := HDN.out
     rw [hmm]
     repeat rw [Mp.get_set, if_neg (by omega)]
     exact g1
    have mD : mm.get dn = some (.var [.int .i64 ↑nn, ra, fa, oa, ha, a, .map mid]) := by
     rw [hmm]
     repeat (first | rw [get_set_same] | rw [Mp.get_set, if_neg (by omega)])
    have mR : mm.get (dn + 1) = some (.rw 1 (intsE (List.replicate nn 0))) := by
     rw [hmm, ← rep_ints]
     repeat (first | rw [get_set_same] | rw [Mp.get_set, if_neg (by omega)])
    have m9 : mm.get (dn + 1 + 1) = some (.var [.row (dn + 1) 0 nn]) := by
     rw [hmm]
     repeat (first | rw [get_set_same] | rw [Mp.get_set, if_neg (by omega)])
    have mF : mm.get (dn + 1 + 1 + 1) = some (.var [.bool false]) := by
     rw [hmm]
     repeat (first | rw [get_set_same] | rw [Mp.get_set, if_neg (by omega)])
    have mH : mm.get (dn + 1 + 1 + 1 + 1) = some (.var [.int .i64 ↑nn, ra, fa, oa, ha]) := by
     rw [hmm]
     repeat (first | rw [get_set_same] | rw [Mp.get_set, if_neg (by omega)])
    have mS : mm.get (dn + 1 + 1 + 1 + 1 + 1) = some (.var [.func (.func 103) [] []]) := by
     rw [hmm]
     repeat (first | rw [get_set_same] | rw [Mp.get_set, if_neg (by omega)])
    have mM : mm.get mid = some (.mp (entE m l)) := by
     have := HMD.out
     rw [hmm]
     repeat rw [Mp.get_set, if_neg (by omega)]
     exact HG.out
    clear hmm g0 g1 hcl k82 k102 k102b k87
    obtain ⟨stp, hstp⟩ : ∃ stp : List Int → Bool × List Int → (Bool × List Int) × Bool, stp = fun p s => (wStep fP m seen off s p, true) := ⟨_, rfl⟩
    have hfold : ∀ s, foldS stp (pathsL (fun _ _ => true) rl nn []) s = ((allP rl nn).foldl (wStep fP m seen off) s, true) := fun s => by
     rw [paths_top, hstp]
     exact foldS_all _ _ _
    have okc := two_ok (dn + 1 + 1 + 1) (dn + 1) nn
    have GET : ∀ blk id, id < dn + 1 + 1 + 1 + 1 + 1 + 1 → (Heap.new ⟨dn + 1 + 1 + 1 + 1 + 1 + 1, mm⟩ blk).get id = mm.get id := fun blk id hid => by
     rw [Heap.get_new, if_neg (by simp only; omega)]
     rfl
    have GEL : ∀ blk, (Heap.new ⟨dn + 1 + 1 + 1 + 1 + 1 + 1, mm⟩ blk).get (dn + 1 + 1 + 1 + 1 + 1 + 1) = some blk := fun blk => by
     rw [Heap.get_new, if_pos rfl]
    have NXT : ∀ blk, (Heap.new ⟨dn + 1 + 1 + 1 + 1 + 1 + 1, mm⟩ blk).next = dn + 1 + 1 + 1 + 1 + 1 + 1 + 1 := fun _ => rfl
    apply W.rangeEnds (R := stU (twoI (dn + 1 + 1 + 1) (dn + 1) nn) (fun _ _ => False) (twoO (dn + 1 + 1 + 1) (dn + 1)) (fun _ => False) _ (foldS stp (pathsL (fun _ _ => true) rl nn []) (false, List.replicate nn 0)))
    ·exact Z1
    ·refine G138 (twoI (dn + 1 + 1 + 1) (dn + 1) nn) (fun _ _ => False) (twoO (dn + 1 + 1 + 1) (dn + 1)) (fun _ => False) okc stp (fun _ _ => True) (fun _ _ _ _ _ _ => trivial) cRH rfl rfl rfl nn rl (dn + 1 + 1 + 1 + 1 + 1 + 1) (dn + 1 + 1 + 1 + 1) (dn + 1 + 1 + 1 + 1 + 1) (by omega) (by have := HR3.out; omega) _ (false, List.replicate nn 0) ra fa oa ha lra o1 103 [] [] (fun _ _ => true)
      ((GET _ _ (by omega)).trans mH) ((GET _ _ (by omega)).trans mS) (by rw [NXT]; omega) (by rw [NXT]; omega) (by unfold twoO; omega) (by unfold twoO; omega)
      ⟨(GET _ _ (by omega)).trans mF, (GET _ _ (by omega)).trans mR, by rw [NXT]; omega, by rw [NXT]; omega, by simp, fun x hx => by have := (List.mem_replicate.1 hx).2; omega⟩ trivial ?_ ?_
     ·intro ap p r h1 _ hbl _ _ _ _
      exact C103 (c := cRH) rfl ap r hbl.out h1
     intro s o rem ap h1 _ i1 kx hol hpl hbl hfv
     have hk : ∀ id, id < dn + 1 + 1 + 1 + 1 + 1 + 1 → id ≠ dn + 1 + 1 + 1 → id ≠ dn + 1 → h1.get id = mm.get id := fun id g1 g2 g3 => ((kx.2 id (by rw [NXT]; omega) (by unfold twoO; omega)).1).trans (GET _ id g1)
     have hL := ((kx.2 (dn + 1 + 1 + 1 + 1 + 1 + 1) (by rw [NXT]; omega) (by unfold twoO; omega)).1).trans (GEL _)
     have lL : dn + 1 + 1 + 1 + 1 + 1 + 1 < h1.next := Nat.lt_of_lt_of_le (by rw [NXT]; omega) kx.1
     obtain ⟨er, hE, hL⟩ : ∃ er, er = _ ∧ h1.get (dn + 1 + 1 + 1 + 1 + 1 + 1) = some (.loop 31 er _ _ _ .ready none) := ⟨_, rfl, hL⟩
     have r4 : er.get 4 = some (.ptr 0 0) := by rw [hE, Mp.get_map]; simp [go_sem, *, noBox]
     have r5 : er.get 5 = some (.ptr 1 0) := by rw [hE, Mp.get_map]; simp [go_sem, *, noBox]
     have r8 : er.get 8 = some (.ptr dn 0) := by rw [hE, Mp.get_map]; simp [go_sem, *, noBox]
     have r9 : er.get 9 = some (.ptr (dn + 1 + 1) 0) := by rw [hE, Mp.get_map]; simp [go_sem, *, noBox]
     have r10 : er.get 10 = some (.ptr (dn + 1 + 1 + 1) 0) := by rw [hE, Mp.get_map]; simp [go_sem, *, noBox]
     obtain ⟨ida, rfl, hga, hida, hne⟩ : ∃ ida, ap = .row ida 0 nn ∧ h1.get ida = some (.rw 1 (intsE o)) ∧ ida < h1.next ∧ intsE o ≠ [] := by
      rcases hbl with ⟨_, e⟩ | ⟨id, e1, e2, e3, e4⟩
      ·exfalso
       have := congrArg List.length e
       rw [intsE_len, hol, List.length_nil] at this
       have := HN1.out
       omega
      ·exact ⟨id, by rw [e1, intsE_len, hol], e2, e3, e4⟩
     have hna := hfv ida 0 nn rfl
     have hna1 : ida ≠ dn + 1 + 1 + 1 := fun e => hna (.inl e)
     have hna2 : ida ≠ dn + 1 := fun e => hna (.inr e)
     have hna3 : ida ≠ dn + 1 + 1 + 1 + 1 + 1 + 1 := fun e => by rw [e, hL] at hga; cases hga
     have fL : ¬ twoO (dn + 1 + 1 + 1) (dn + 1) h1 (dn + 1 + 1 + 1 + 1 + 1 + 1) := by unfold twoO; omega
     have hq := HPQ.out o hol hpl
     have w0 := (hk 0 (by omega) (by omega) (by omega)).trans m0
     have w1 := (hk 1 (by omega) (by omega) (by have := HDN.out; omega)).trans m1
     have wD := (hk dn (by omega) (by omega) (by omega)).trans mD
     have w9 := (hk (dn + 1 + 1) (by omega) (by omega) (by omega)).trans m9
     have wM := (hk mid (by have := HMD.out; omega) (by have := HMD.out; omega) (by have := HMD.out; omega)).trans mM
     have HHL := Lib.hid hL
     have HI1 := Lib.hid i1
     have HFL := Lib.hid fL
     have HQ := Lib.hid hq
     have HOL := Lib.hid hol
     have HPL := Lib.hid hpl
     have HGA := Lib.hid hga
     have HLL := Lib.hid lL
     have HNA := Lib.hid (And.intro hna1 (And.intro hna2 hna3))
     have HIDA := Lib.hid hida
     have HOK := Lib.hid okc
     have HSTP := Lib.hid hstp
     refine round_ok' hL rfl ?_
     clear hE hL kx hk i1 fL hq hol hpl hga hida hne hna hna1 hna2 hna3 hbl hfv lL GET GEL NXT m0 m1 mD mR m9 mF mH mS mM hfold okc hstp
     repeat' (first | refine goS ?_ | refine go2 (fun hh => ?_) (fun hh => ?_) | fail)
     rintro ⟨zn, zm⟩ hzn hzg hzL
     have q0 := (hzg 0 (by omega)).trans w0
     have q1 := (hzg 1 (by have := HDN.out; omega)).trans w1
     have qD := (hzg dn (by omega)).trans wD
     have q9 := (hzg (dn + 1 + 1) (by omega)).trans w9
     have qM := (hzg mid (by have := HMD.out; omega)).trans wM
     have qA := (hzg ida HNA.out.2.2).trans HGA.out
     have hpth : pthV ⟨zn, zm⟩ (.row ida 0 nn) = some o := by
      have hb2 : Blt ⟨zn, zm⟩ (.row ida 0 nn) 1 (intsE o) := by
       refine .inr ⟨ida, by rw [intsE_len, HOL.out], qA, ?_, ?_⟩
       ·rw [hzn]; exact HIDA.out
       ·intro e
        have := congrArg List.length e
        rw [intsE_len, HOL.out, List.length_nil] at this
        have := HN1.out
        omega
      exact pth_blt hb2 (by have := HOL.out; unfold maxL; omega)
     have k104 := H104.out (.row ida 0 nn) o ⟨zn, zm⟩ qM hpth HQ.out
     have hsk := HSK.out (airS m o)
     have hi := (rnd_in HOK.out HI1.out hzn hzg HFL.out (fun z r e => by rw [HHL.out] at e; cases e)).1
     have bg := fun s4 h' => back_go HOK.out (s4 := s4) (h' := h') HI1.out hzn hzg HHL.out HFL.out HLL.out (fun z r e => by rw [HHL.out] at e; cases e) (fun z r e => by rw [hzL] at e; cases e)
     have HBG := Lib.hid bg
     have HHI := Lib.hid hi
     have HZL := Lib.hid hzL
     have hzn' : zn = h1.next := hzn
     have HZN := Lib.hid hzn'
     obtain ⟨y1, y2, y3, y4, y5, y6⟩ := hi
     have HY3 := Lib.hid y3
     have HY4 := Lib.hid y4
     have HY5 := Lib.hid y5
     have HY6 := Lib.hid y6
     simp only [hp_get] at q0 q1 qD q9 qM qA y1 y2
     clear hzn hzg hzL hpth bg y3 y4 y5 y6 w0 w1 wD w9 wM hzn'
     cases hag : agrB (airS m o) seen off with
     | false =>
      rw [hag] at hsk
      have hw : stp o s = (s, true) := by rw [HSTP.out]; simp only [wStep, hag]; rfl
      have HW := Lib.hid hw
      clear hw hag
      generalize (airS m o).1 = lo at *
      generalize (airS m o).2 = hi at *
      cases d1 : decide (lo > IntKind.i64.wrap (seen + off)) <;> cases d2 : decide (hi < IntKind.i64.wrap (seen - off))
      ·rw [d1, d2] at hsk; cases hsk
      all_goals
       clear hsk
       repeat' (first | refine goS ?_ | (apply U6; exact Z1; exact Z1; (focus (simp only [List.nil_append, List.append_nil]; first | exact k104)); simp only [pM, pN, rR, rP]) | refine go2 (fun hh => ?_) (fun hh => ?_) | fail)
       rw [roundQ_norm]
       simp only [endV, HZL.out]
       have := HBG.out s _ HHI.out (Rel.refl _ _)
       exact stR_go HW.out this.1 this.2
     | true =>
      rw [hag] at hsk
      have hw : stp o s = ((true, addTo fP s.2 o nn), true) := by rw [HSTP.out, ← HOL.out]; simp only [wStep, hag]; rfl
      have HW := Lib.hid hw
      clear hw hag
      generalize (airS m o).1 = lo at *
      generalize (airS m o).2 = hi at *
      cases d1 : decide (lo > IntKind.i64.wrap (seen + off)) <;> cases d2 : decide (hi < IntKind.i64.wrap (seen - off))
      ·clear hsk
       repeat' (first | refine goS ?_ | (apply U6; exact Z1; exact Z1; (focus (simp only [List.nil_append, List.append_nil]; first | exact k104)); simp only [pM, pN, rR, rP]) | refine go2 (fun hh => ?_) (fun hh => ?_) | fail)
       refine W.loopV (nn) [9, 53, 54] [9] (fun k e lm hp => e.get 55 = some (.int .i64 ↑k) ∧ hp.get (dn + 1) = some (.rw 1 (intsE (addTo fP s.2 o k))) ∧ hp.next = zn ∧ (∀ id, id ≠ dn + 1 → hp.get id = if dn + 1 + 1 + 1 = id then some (.var [.bool true]) else zm.get id)) ?_ ?_
       ·skip
        refine ⟨?_, ?_, ?_, ?_⟩
        all_goals first | exact Z2 | (simp [go_sem, *]; done) | skip
        ·simp only [hp_get, Mp.get_set]; rw [if_neg (by omega)]; exact y2
       intro k e lm hp hk0 hce hcl hinv
       simp only [keepE, and_true] at hce
       obtain ⟨c9, c53, c54⟩ := hce
       simp only [go_sem, *, Nat.reduceLT, Int.reduceEq, Int.reduceBEq, Int.reduceLE, Int.reduceLT, Nat.reduceAdd, Nat.reduceBEq, Nat.reduceEqDiff, reduceIte, Nat.reduceLeDiff, Nat.reduceMul, Nat.reduceSub, reduceCtorEq] at c9 c53 c54
       simp only [keepL, and_true] at hcl
       have d9 := hcl
       clear hcl
       simp only [go_sem, *, Nat.reduceLT, Int.reduceEq, Int.reduceBEq, Int.reduceLE, Int.reduceLT, Nat.reduceAdd, Nat.reduceBEq, Nat.reduceEqDiff, reduceIte, Nat.reduceLeDiff, Nat.reduceMul, Nat.reduceSub, reduceCtorEq] at d9
       obtain ⟨h55, hg1, hnx, hot⟩ := hinv
       by_cases hlt : k < nn
       ·have hd0 : decide ((k : Int) < ((nn : Nat) : Int)) = true := by first | (simpa using hlt; done) | (simp only [decide_eq_true_eq]; omega)
        have hv_0 := wrap_succ hlt (by have := hmost; unfold maxL; omega)
        obtain ⟨pn, pm⟩ := hp
        simp only at hnx
        subst hnx
        have z9 := hot (dn + 1 + 1) (by omega)
        rw [if_neg (by omega), q9] at z9
        have zA := hot ida HNA.out.2.1
        rw [if_neg (fun e => HNA.out.1 e.symm), qA] at zA
        obtain ⟨r, hr⟩ := get_some (l := o) (k := k) (by have := HOL.out; omega)
        have hgr : o.getD k 0 = r := by simp [List.getD, hr]
        have hr3 := HPL.out r (List.mem_of_getElem? hr)
        have hrl3 := HR3.out
        obtain ⟨v1, v2⟩ := plus_one (n := rl) hr3 (by omega)
        have hw : IntKind.i64.wrap (r + 1) = (((r + 1).toNat : Nat) : Int) := v1
        have hol := addTo_len fP s.2 o k
        rw [HY5.out] at hol
        have hgo := ints_get (l := addTo fP s.2 o k) (j := k) (by rw [hol]; exact hlt)
        have hga : (intsE o)[k]? = some (.int .i64 r) := by unfold intsE; rw [List.getElem?_map, hr]; rfl
        have hix1 := row_idx (n := nn) hg1 hlt
        have hix2 := row_idx (n := nn) zA hlt
        have hnx2 : addTo fP s.2 o (k + 1) = (addTo fP s.2 o k).set k (orI ((addTo fP s.2 o k).getD k 0) (bitI ((r + 1).toNat : Int))) := by rw [addTo, hgr]; unfold fP; rw [v1]
        have hset := ints_set (addTo fP s.2 o k) k
        have hor := intOp_orI
        generalize addTo fP s.2 o k = cu at *
        generalize cu.getD k 0 = oo at *
        generalize hrr : (r + 1).toNat = rn at *
        have hsh := intOp_shlI (r := (rn : Int)) (by omega)
        have HNX2 := Lib.hid hnx2
        have HSET := Lib.hid hset
        have HOT := Lib.hid hot
        have HLT0 := Lib.hid hlt
        simp only [hp_get] at hg1 z9 zA
        clear hr hgr hr3 hrl3 v1 v2 hol hnx2 hset hrr hot hlt
        repeat' (first | (apply W.drawQ (id := 14) (l1 := [0, 1, 2, 3, 4, 5, 6, 7, 8]) (l2 := [9]); kernel_rfl; kernel_rfl; kernel_rfl; exact Z4) | (apply U5; exact rfl; (focus (intro cl rd; simp only [go_sem, *, Nat.reduceLT, Int.reduceEq, Int.reduceBEq, Int.reduceLE, Int.reduceLT, Nat.reduceAdd, Nat.reduceBEq, Nat.reduceEqDiff, reduceIte, Nat.reduceLeDiff, Nat.reduceMul, Nat.reduceSub, reduceCtorEq, efV, Fr.storeE, AV.cells, isTuple, write_eptr, splice, asElem, isAggV]; with_reducible rfl)); simp only [pM, pN]) | refine go1 ?_ | refine go2 (fun hh => ?_) (fun hh => ?_) | fail)
        all_goals refine contV_mk (by first | assumption | exact HLT0.out | exact HLT0.out) (by simp only [keepE, and_true, and_self, go_sem, *, Nat.reduceLT, Int.reduceEq, Int.reduceBEq, Int.reduceLE, Int.reduceLT, Nat.reduceAdd, Nat.reduceBEq, Nat.reduceEqDiff, reduceIte, Nat.reduceLeDiff, Nat.reduceMul, Nat.reduceSub, reduceCtorEq]) (by simp only [keepL, and_true, and_self, go_sem, *, Nat.reduceLT, Int.reduceEq, Int.reduceBEq, Int.reduceLE, Int.reduceLT, Nat.reduceAdd, Nat.reduceBEq, Nat.reduceEqDiff, reduceIte, Nat.reduceLeDiff, Nat.reduceMul, Nat.reduceSub, reduceCtorEq]) ?_
        all_goals refine ⟨?_, ?_, ?_, ?_⟩
        all_goals first | exact Z2 | skip
        ·rw [HNX2.out, ← HSET.out]
         simp only [hp_get, get_set_same]
        ·intro id hid
         simp only [hp_get, Mp.get_set]
         rw [if_neg (fun e => hid e.symm)]
         have := HOT.out id hid
         simp only [hp_get] at this
         exact this
       ·have hd0 : decide ((k : Int) < ((nn : Nat) : Int)) = false := by first | (simpa using hlt; done) | (simp only [decide_eq_false_iff_not]; omega)
        obtain rfl : k = nn := by omega
        obtain ⟨pn, pm⟩ := hp
        simp only at hnx
        subst hnx
        have HOT := Lib.hid hot
        have HG1 := Lib.hid hg1
        clear hot hg1
        repeat' (first | refine goS ?_ | refine go2 (fun hh => ?_) (fun hh => ?_) | fail)
        rw [roundQ_norm]
        have hLL : (Heap.mk pn pm).get (dn + 1 + 1 + 1 + 1 + 1 + 1) = _ := (HOT.out _ (by omega)).trans ((if_neg (by omega)).trans HZL.out)
        simp only [endV, hLL]
        have := HBG.out (true, addTo fP s.2 o k) ⟨pn, pm⟩ ⟨(HOT.out _ (by omega)).trans (if_pos rfl), HG1.out, HY3.out, HY4.out, by rw [addTo_len]; exact HY5.out, (addTo_same HY6.out (fun x hx => by have := HPL.out x hx; have := HR3.out; omega) k (by have := HOL.out; omega)).1 ▸ (addTo_same HY6.out (fun x hx => by have := HPL.out x hx; have := HR3.out; omega) k (by have := HOL.out; omega)).2⟩ ⟨Nat.le_refl _, fun id _ hno => ⟨by
         have h1 := HOT.out id (fun e => hno (.inr e))
         rw [if_neg (fun e => hno (.inl e.symm))] at h1
         exact h1, hno⟩⟩
        exact stR_go HW.out this.1 this.2
      all_goals (rw [d1, d2] at hsk; cases hsk)
    ·intro r hcl hR
     rw [hfold] at hR
     obtain ⟨h', rfl, hgo1, _⟩ := hR
     obtain ⟨hI, hRel⟩ := hgo1 rfl
     have hL := ((hRel.2 (dn + 1 + 1 + 1 + 1 + 1 + 1) (by rw [NXT]; omega) (by unfold twoO; omega)).1).trans (GEL _)
     have h9 := ((hRel.2 (dn + 1 + 1) (by rw [NXT]; omega) (by unfold twoO; omega)).1).trans ((GET _ _ (by omega)).trans m9)
     refine W.rangeNorm rfl ?_ hcl hL (fun e => by cases e) ?_
     ·first | exact Z2 | exact Z1
     clear hcl hL GET GEL NXT m0 m1 mD mR m9 mF mH mS mM hfold okc hstp hgo1 hRel
     generalize hput : Heap.put h' _ _ = hz
     have hzn : hz.next = h'.next := by rw [← hput]; rfl
     have hzg : ∀ id, id ≠ dn + 1 + 1 + 1 + 1 + 1 + 1 → hz.get id = h'.get id := fun id hid => by rw [← hput, Heap.get_put, if_neg (fun e => hid e.symm)]
     obtain ⟨y1, y2, y3, y4, y5, y6⟩ := hI
     have z9 := (hzg (dn + 1 + 1) (by omega)).trans h9
     have zF := (hzg (dn + 1 + 1 + 1) (by omega)).trans y1
     have zR := (hzg (dn + 1) (by omega)).trans y2
     generalize (allP rl nn).foldl (wStep fP m seen off) (false, List.replicate nn 0) = st at *
     obtain ⟨met, out⟩ := st
     simp only at zF zR y5
     have hB : BltN 0 hz (.row (dn + 1) 0 nn) 1 (intsE out) := .inr ⟨dn + 1, by rw [intsE_len, y5], zR, Nat.zero_le _, by rw [hzn]; exact y4, fun e => by
      have := congrArg List.length e
      rw [intsE_len, y5, List.length_nil] at this
      have := HN1.out
      omega⟩
     obtain ⟨h2, hz0, hz2, hz1, hzx, hzy⟩ := hB.freeze
     obtain ⟨zn, zm⟩ := hz
     simp only [hp_get] at z9 zF
     clear hput hzn hzg y1 y2 y3 y4 y5 y6 h9 hB hzx hzy zR
     simp only [bN, tN]
     cases met with
     | false =>
      simp only [Bool.false_eq_true, if_false]
      repeat' (first | refine goS ?_ | refine go2 (fun hh => ?_) (fun hh => ?_) | fail)
      all_goals (simp only [resV_def (X := dX cRH) Tryz.func31, Tryz.results31]; first | exact J5 | refine J6 ?_)
      all_goals rfl
     | true =>
      simp only [if_true]
      repeat' (first | refine goS ?_ | refine go2 (fun hh => ?_) (fun hh => ?_) | fail)
      all_goals (simp only [resV_def (X := dX cRH) Tryz.func31, Tryz.results31]; first | exact J5 | refine J6 ?_)
      all_goals rfl
theorem F31 : IntrFn Tryz.prog 31 (pureFn sp31) := by
 refine pure_fn (X := dX cRH) cRH_sound p31 ?_
 intro args v h
 unfold sp31 at h
 split at h
 ·rename_i x seen off
  cases hm : hsV x with
  | none => rw [hm] at h; cases h
  | some m =>
   rw [hm] at h
   have h := Option.some.inj h
   subst h
   obtain ⟨ra, fa, oa, ha, rfl, hA⟩ := hs_parts' hm
   exact R31 m ra fa oa ha seen off hA
 ·cases h
theorem K31 {X : Ctx} (hX : X.intr 31 = some (pureFn sp31)) {m : Hs} {ra fa oa ha : AV} (hm : HsA m ra fa oa ha) (seen off : Int) (h : Heap) : Cl X 31 [.agg [.int .i64 m.hours, ra, fa, oa, ha], .int .i64 seen, .int .i64 off] h (.ret (whereV m seen off) h none) :=
 Cl.intr hX (by
  have h1 := hm.pur
  have h2 := hm.hs
  simp only [pureFn, AV.purL, h1, show (AV.int .i64 seen).pur = true from rfl, show (AV.int .i64 off).pur = true from rfl, Bool.and_self, if_true, sp31, h2, Option.map_some])
end Go.AM
