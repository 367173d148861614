/-
  A part of the proof: contracts of functions.
-/
import Derived.Test.YtkpbdjpekjdhcaaGreatDoorUBJ
import Derived.Test.YtkpbdjpekjdhcaaGreatDoorUBE
import Derived.Test.YtkpbdjpekjdhcaaGreatDoorUBH
set_option linter.unusedSectionVars false
set_option linter.unusedVariables false
set_option linter.unusedSimpArgs false
set_option maxRecDepth 100000
namespace Go.AM
open Go Go.Proofs
variable [Keep]
attribute [local irreducible] W WO WO1 WD WQ WT thenQ blockQ endR isRet retK Cl ClR
open Go.TX (Rm Fa Ha Hs mapO mapO_len)
attribute [local irreducible] hasB metF houseB failsH highG lowG brV brG
def stafB (m : Hs) (g : List (List Int)) : Bool := (List.range g.length).all fun i => decide (workedL (g.getD i []) ≤ mostAt m i) && decide ((airS m (g.getD i [])).2 ≤ limAt m i)
attribute [local irreducible] pathB airS
theorem K90d {X : Ctx} (hX : X.intr 90 = some go90) {m : Hs} (ho : HOk m) {z1 z2 z3 z4 a pa : AV} {mid : Nat} {l : List Fl} {h : Heap} {p : List Int} (li mo : Int) (ha : slV fkC a = some ((failsH m).map Fl.tell)) (hg : h.get mid = some (.mp (entE m l))) (hl : ∀ f ∈ failsH m, f ∈ l) (hp : pthV h pa = some p) (hb : pathB m p = true) :
  Cl X 90 [.agg [.int .i64 m.hours, z1, z2, z3, z4, a, .map mid], .agg [.int .i64 li, .int .i64 mo], pa] h (.ret (.bool (decide (workedL p ≤ mo) && decide ((airS m p).2 ≤ li))) h none) := by
 have h1 := mapO_dust ho hg hl
 have h2 := air_most ho hb
 unfold gsH at h2
 exact Cl.intr hX (by simp only [go90, go140, ha, hp, h1, h2])
noncomputable def cRC : Itr
 | 82 => some (flatFnD sp82)
 | 121 => some (pureFn sp121)
 | 90 => some go90
 | 122 => some go122
 | 136 => some (pureFn sp136)
 | 137 => some (pureFn sp137)
 | _ => none
theorem cRC_sound : Sound (dX cRC) := dX_sound (fun f g h => by
 unfold cRC at h
 split at h
 ·cases h; exact F82D
 ·cases h; exact F121
 ·cases h; exact F90
 ·cases h; exact F122
 ·cases h; exact F136
 ·cases h; exact F137
 ·cases h)
theorem hdRC : CxD cRC := ⟨rfl, rfl, rfl, rfl, rfl⟩
def stafV (m : Hs) (g : List (List Int)) : AV := if (houseB m && rosB m g) = true then .tuple [.bool (stafB m g), .int .i64 0] else .tuple [.bool false, .int .i64 2]
def sp52 : List AV → Option AV
 | [x, dv] => match hsV x, lisV dv with
  | some m, some g => some (stafV m g)
  | _, _ => none
 | _ => none
theorem p52 : ∀ args v, sp52 args = some v → v.pur = true := by
 intro args v h
 unfold sp52 at h
 split at h
 ·split at h
  ·cases h; unfold stafV; split <;> rfl
  ·cases h
 ·cases h
set_option maxHeartbeats 8000000 in
theorem F52 : IntrFn Tryz.prog 52 (pureFn sp52) := by
 refine pure_fn (X := dX cRC) cRC_sound p52 ?_
 intro args v h
 unfold sp52 at h
 split at h
 ·rename_i xx dv
  split at h
  ·rename_i m g hm hg
   have h := Option.some.inj h
   subst h
   obtain ⟨ra, fa, oa, ha, rfl, hA⟩ := hs_parts' hm
   have o1 := sl_out hA.r
   have o2 := sl_out hA.f
   have o3 := sl_out hA.o
   have o4 := sl_out hA.h
   have ld := lis_len hg
   have od := lis_out hg
   have md := lis_max hg
   have k82 := fun h => K82p (X := dX cRC) rfl hA h
   unfold stafV
   cases hb : houseB m with
   | false =>
    rw [hb] at k82
    simp only [Bool.false_and, Bool.false_eq_true, if_false]
    clear hm hA hg hb
    refine ClR.walk (c := _) rfl Tryz.func52 rfl (by kernel_rfl) rfl isRet_fail ?_
    try simp only [entryEnv, Nat.reduceAdd, List.nil_append, List.cons_append, emptyHp]
    repeat' (first | refine goS ?_ | (apply U6; exact Z1; exact Z1; (focus (simp only [List.nil_append, List.append_nil]; first | exact k82 _)); simp only [pM, pN, rR, rP]) | refine go2 (fun hh => ?_) (fun hh => ?_) | fail)
    all_goals (simp only [resV_def (X := dX cRC) Tryz.func52, Tryz.results52]; first | exact J5 | refine J6 ?_)
    all_goals rfl
   | true =>
    rw [hb] at k82
    have k121 := fun h => K121 (X := dX cRC) rfl hA hb hg h
    cases hr : rosB m g with
    | false =>
     rw [hr] at k121
     simp only [Bool.true_and, Bool.false_eq_true, if_false]
     clear hm hA hg hb hr
     refine ClR.walk (c := _) rfl Tryz.func52 rfl (by kernel_rfl) rfl isRet_fail ?_
     try simp only [entryEnv, Nat.reduceAdd, List.nil_append, List.cons_append, emptyHp]
     repeat' (first | refine goS ?_ | (apply U6; exact Z1; exact Z1; (focus (simp only [List.nil_append, List.append_nil]; first | exact k82 _ | exact k121 _)); simp only [pM, pN, rR, rP]) | refine go2 (fun hh => ?_) (fun hh => ?_) | fail)
     all_goals (simp only [resV_def (X := dX cRC) Tryz.func52, Tryz.results52]; first | exact J5 | refine J6 ?_)
     all_goals rfl
    | true =>
     rw [hr] at k121
     simp only [Bool.and_self, if_true]
     have ho := house_ok hb
     have hro := ros_ok hr
     have hd := C83 hdRC m ra fa oa ha hA ho 0 .nil
     unfold ClR dayR at hd
     obtain ⟨_, hcl, h', a, mid, l, rfl, hx, hsl, hgm, hl, _⟩ := hd
     have h90 := fun (pa : AV) (p : List Int) (li mo : Int) (hp : slV intC pa = some p) (hq : pathB m p = true) => K90d (X := dX cRC) rfl ho (z1 := ra) (z2 := fa) (z3 := oa) (z4 := ha) li mo hsl hgm hl (pth_of hp) hq
     have oa5 := sl_out hsl
     have H90 := Lib.hid h90
     have HG := Lib.hid hg
     have HM := Lib.hid hA
     have HRO := Lib.hid hro
     unfold stafB
     clear hm hA hg hb hr ho hro hx hsl hgm hl h90
     refine ClR.walk (c := _) rfl Tryz.func52 rfl (by kernel_rfl) rfl isRet_fail ?_
     try simp only [entryEnv, Nat.reduceAdd, List.nil_append, List.cons_append, emptyHp]
     repeat' (first | refine goS ?_ | (apply U6; exact Z1; exact Z1; (focus (simp only [List.nil_append, List.append_nil]; first | exact k82 _ | exact k121 _ | exact hcl)); simp only [pM, pN, rR, rP]) | refine go2 (fun hh => ?_) (fun hh => ?_) | fail)
     refine W.loopH (g.length) [2, 6, 20, 21] [2, 6] (fun k e lm => e.get 22 = some (.int .i64 ↑k) ∧ (List.range k).all (fun i => decide (workedL (g.getD i []) ≤ mostAt m i) && decide ((airS m (g.getD i [])).2 ≤ limAt m i)) = true) ?_ ?_
     ·skip
      refine ⟨?_, ?_⟩
      all_goals first | exact Z2 | (simp [go_sem, *]; done) | skip
      all_goals rfl
     intro k e lm hk0 hce hcl hinv
     simp only [keepE, and_true] at hce
     obtain ⟨c2, c6, c20, c21⟩ := hce
     simp only [go_sem, *, Nat.reduceLT, Int.reduceEq, Int.reduceBEq, Int.reduceLE, Int.reduceLT, Nat.reduceAdd, Nat.reduceBEq, Nat.reduceEqDiff, reduceIte, Nat.reduceLeDiff, Nat.reduceMul, Nat.reduceSub, reduceCtorEq] at c2 c6 c20 c21
     simp only [keepL, and_true] at hcl
     obtain ⟨d2, d6⟩ := hcl
     simp only [go_sem, *, Nat.reduceLT, Int.reduceEq, Int.reduceBEq, Int.reduceLE, Int.reduceLT, Nat.reduceAdd, Nat.reduceBEq, Nat.reduceEqDiff, reduceIte, Nat.reduceLeDiff, Nat.reduceMul, Nat.reduceSub, reduceCtorEq] at d2 d6
     obtain ⟨h22, hal⟩ := hinv
     by_cases hlt : k < g.length
     ·have hd0 : decide ((k : Int) < ((g.length : Nat) : Int)) = true := by first | (simpa using hlt; done) | (simp only [decide_eq_true_eq]; omega)
      have hv_0 := wrap_succ hlt md
      obtain ⟨p, hp⟩ := get_some hlt
      obtain ⟨b, hb1, hb2⟩ := lis_idx HG.out hp
      obtain ⟨x, hxx⟩ := get_some (l := m.hands) (k := k) (by have := HRO.out.len; omega)
      have hix := fun H => has_idx HM.out.h hxx H
      have hgp : g.getD k [] = p := by simp [List.getD, hp]
      have hmx : mostAt m k = x.most := by unfold mostAt; rw [hxx]
      have hlx : limAt m k = x.limit := by unfold limAt; rw [hxx]
      have k90 := H90.out b p x.limit x.most hb1 (HRO.out.path p (List.mem_of_getElem? hp))
      have ob := sl_out hb1
      have hcb := (slV_is hb1).1.cells
      have htb := (slV_is hb1).1.tup
      simp only [AV.cells] at hcb
      simp only [isTuple] at htb
      have hat : (decide (workedL (g.getD k []) ≤ mostAt m k) && decide ((airS m (g.getD k [])).2 ≤ limAt m k)) = (decide (workedL p ≤ x.most) && decide ((airS m p).2 ≤ x.limit)) := by rw [hgp, hmx, hlx]
      have hnx : (List.range (k + 1)).all (fun i => decide (workedL (g.getD i []) ≤ mostAt m i) && decide ((airS m (g.getD i [])).2 ≤ limAt m i)) = (decide (workedL p ≤ x.most) && decide ((airS m p).2 ≤ x.limit)) := by
       rw [List.range_succ, List.all_append, hal, List.all_cons, hat]; simp
      have HAT := Lib.hid hat
      have HNX := Lib.hid hnx
      have HLT0 := Lib.hid hlt
      clear hp hb1 hxx hgp hmx hlx hat hnx hal hlt
      generalize hbu : (decide (workedL p ≤ x.most) && decide ((airS m p).2 ≤ x.limit)) = bu at *
      cases bu with
      | false =>
       have hno : (List.range g.length).all (fun i => decide (workedL (g.getD i []) ≤ mostAt m i) && decide ((airS m (g.getD i [])).2 ≤ limAt m i)) = false := by
        rw [List.all_eq_false]
        exact ⟨k, List.mem_range.2 HLT0.out, by rw [HAT.out]; simp⟩
       rw [hno]
       clear hno hbu
       repeat' (first | (apply W.drawQ (id := 7) (l1 := [0, 1, 2, 3, 4, 5, 6, 7, 8]) (l2 := []); kernel_rfl; kernel_rfl; kernel_rfl; exact Z4) | refine go1 ?_ | (apply U6; exact Z1; exact Z1; (focus (simp only [List.nil_append, List.append_nil]; first | exact k90)); simp only [pM, pN, rR, rP]) | refine go2 (fun hh => ?_) (fun hh => ?_) | fail)
       all_goals (simp only [resV_def (X := dX cRC) Tryz.func52, Tryz.results52]; first | exact J5 | refine J6 ?_)
       all_goals rfl
      | true =>
       have HBU := Lib.hid hbu
       clear hbu
       repeat' (first | (apply W.drawQ (id := 7) (l1 := [0, 1, 2, 3, 4, 5, 6, 7, 8]) (l2 := []); kernel_rfl; kernel_rfl; kernel_rfl; exact Z4) | refine go1 ?_ | (apply U6; exact Z1; exact Z1; (focus (simp only [List.nil_append, List.append_nil]; first | exact k90)); simp only [pM, pN, rR, rP]) | refine go2 (fun hh => ?_) (fun hh => ?_) | fail)
       all_goals refine contH_mk (by first | assumption | exact HLT0.out | exact HLT0.out) (by simp only [keepE, and_true, and_self, go_sem, *, Nat.reduceLT, Int.reduceEq, Int.reduceBEq, Int.reduceLE, Int.reduceLT, Nat.reduceAdd, Nat.reduceBEq, Nat.reduceEqDiff, reduceIte, Nat.reduceLeDiff, Nat.reduceMul, Nat.reduceSub, reduceCtorEq]) (by simp only [keepL, and_true, and_self, go_sem, *, Nat.reduceLT, Int.reduceEq, Int.reduceBEq, Int.reduceLE, Int.reduceLT, Nat.reduceAdd, Nat.reduceBEq, Nat.reduceEqDiff, reduceIte, Nat.reduceLeDiff, Nat.reduceMul, Nat.reduceSub, reduceCtorEq]) ?_
       all_goals refine ⟨?_, ?_⟩
       all_goals first | exact Z2 | skip
       all_goals exact HNX.out
     ·have hd0 : decide ((k : Int) < ((g.length : Nat) : Int)) = false := by first | (simpa using hlt; done) | (simp only [decide_eq_false_iff_not]; omega)
      obtain rfl : k = g.length := by omega
      rw [hal]
      clear hal
      repeat' (first | refine goS ?_ | refine go2 (fun hh => ?_) (fun hh => ?_) | fail)
      all_goals (simp only [resV_def (X := dX cRC) Tryz.func52, Tryz.results52]; first | exact J5 | refine J6 ?_)
      all_goals rfl
  ·cases h
 ·cases h
end Go.AM
namespace Go.AM
open Go Go.Proofs
variable [Keep]
attribute [local irreducible] W WO WO1 WD WQ WT thenQ blockQ endR isRet retK Cl ClR
open Go.TX (Rm Fa Ha Hs)
structure UpF (a b : List Fa) : Prop where
 len : b.length = a.length
 at_ : ∀ (i : Nat) (x : Fa), a[i]? = some x → ∃ y, b[i]? = some y ∧ y.room = x.room ∧ x.draws ≤ y.draws
theorem upF_bool {m : Hs} {F : List Fa} (hu : UpF m.fans F) (hd : ∀ x ∈ F, 0 ≤ x.draws ∧ x.draws ≤ 50) (hb : houseB m = true) : houseB { m with fans := F } = true := by
 have ho := house_ok hb
 unfold houseB at hb ⊢
 simp only [Bool.and_eq_true] at hb ⊢
 obtain ⟨⟨⟨⟨⟨⟨⟨⟨h1, h2⟩, h3⟩, h4⟩, h5⟩, h6⟩, h7⟩, h8⟩, h9⟩ := hb
 refine ⟨⟨⟨⟨⟨⟨⟨⟨h1, h2⟩, ?_⟩, h4⟩, h5⟩, h6⟩, ?_⟩, h8⟩, h9⟩
 ·rw [hu.len]; exact h3
 ·simp only [Bool.not_eq_true', List.any_eq_false] at h7 ⊢
  intro y hy
  obtain ⟨i, hi, rfl⟩ := List.getElem_of_mem hy
  obtain ⟨x, hx⟩ := get_some (l := m.fans) (k := i) (by have := hu.len; omega)
  obtain ⟨y, e1, e2, e3⟩ := hu.at_ i x hx
  have e4 : F[i] = y := by rw [List.getElem?_eq_getElem hi] at e1; exact Option.some.inj e1
  have h := h7 x (List.mem_of_getElem? hx)
  have h0 := hd F[i] hy
  rw [e4] at h0 ⊢
  unfold fanB at h ⊢
  simp only [Bool.not_eq_true, Bool.not_eq_false', Bool.and_eq_true, Bool.not_eq_false] at h ⊢
  rw [e2]
  exact ⟨h.1, inB_iff.2 h0⟩
section
variable {m : Hs} {F : List Fa}
theorem upF_fails (hu : UpF m.fans F) : failsH { m with fans := F } = failsH m := by
 unfold failsH
 simp only [hu.len]
theorem upF_path (p : List Int) : pathB { m with fans := F } p = pathB m p := rfl
theorem upF_now (hu : UpF m.fans F) (ho : HOk m) (ho' : HOk { m with fans := F }) (f : Fl) (r : Nat) {md : Nat → Int} (h1 : ∀ k, 0 ≤ md k ∧ md k ≤ 50) (n : Nat) (hn : n ≤ 1000) : nowF { m with fans := F } f r md n ≤ nowF m f r md n :=
 now_cmp ho' ho f f r h1 h1 rfl n hn (fun _ _ => Int.le_refl _) (fun k _ h => h) fun k _ => by
  have h4 := ho.fans
  have hl := hu.len
  show sumW (drawnP m f r k m.fans.length) ≤ sumW (drawnP { m with fans := F } f r k F.length)
  rw [hl]
  refine drawn_cmp (fans_ok ho') (fans_ok ho) (fun i x hx e => ?_) _ (by omega)
  obtain ⟨y, e1, e2, e3⟩ := hu.at_ i x hx
  exact ⟨y, e1, by rw [e2]; exact e, e3⟩
theorem upF_grid (hu : UpF m.fans F) (ho : HOk m) (ho' : HOk { m with fans := F }) (f : Fl) : leG (lowG { m with fans := F } f) (lowG m f) ∧ leG (highG { m with fans := F } f) (highG m f) := by
 have hh := ho.hours
 constructor
 ·intro r k x y u v h1 h2 h3 h4
  obtain ⟨hr, _⟩ := List.getElem?_eq_some_iff.1 h2
  rw [(low_ok ho f).len] at hr
  have e1 := (lows_get { m with fans := F } f (R := m.rooms.length) hr).1
  have e2 := (lows_get m f hr).1
  have hs := stt_ok ho r
  unfold lowG at h1 h2
  rw [e2] at h2
  change (lowsP { m with fans := F } f m.rooms.length)[r]? = _ at h1
  rw [e1] at h1
  cases h1
  cases h2
  obtain ⟨hk, _⟩ := List.getElem?_eq_some_iff.1 h4
  rw [row_len] at hk
  rw [row_get hk] at h3 h4
  cases h3
  cases h4
  exact upF_now hu ho ho' f r (fun _ => by show 0 ≤ (m.rooms.getD r rm0).lo ∧ (m.rooms.getD r rm0).lo ≤ 50; omega) _ (by omega)
 ·intro r k x y u v h1 h2 h3 h4
  obtain ⟨hr, _⟩ := List.getElem?_eq_some_iff.1 h2
  rw [(high_ok ho f).len] at hr
  have e1 := (lows_get { m with fans := F } f (R := m.rooms.length) hr).2
  have e2 := (lows_get m f hr).2
  have hs := stt_ok ho r
  unfold highG at h1 h2
  rw [e2] at h2
  change (highsP { m with fans := F } f m.rooms.length)[r]? = _ at h1
  rw [e1] at h1
  cases h1
  cases h2
  obtain ⟨hk, _⟩ := List.getElem?_eq_some_iff.1 h4
  rw [row_len] at hk
  rw [row_get hk] at h3 h4
  cases h3
  cases h4
  exact upF_now hu ho ho' f r (fun _ => by show 0 ≤ (m.rooms.getD r rm0).hi ∧ (m.rooms.getD r rm0).hi ≤ 50; omega) _ (by omega)
theorem upF_air (hu : UpF m.fans F) (ho : HOk m) (ho' : HOk { m with fans := F }) {p : List Int} (hp : pathB m p = true) : (airS { m with fans := F } p).1 ≤ (airS m p).1 ∧ (airS { m with fans := F } p).2 ≤ (airS m p).2 := by
 have hne : failsH m ≠ [] := fun e => by have := fails_1 m; rw [e] at this; simp at this
 have ef := upF_fails (m := m) hu
 have key1 : ∀ f, brV (lowG { m with fans := F } f) p ≤ brV (lowG m f) p := fun f => brV_mono ho hp (low_ok ho' f) (low_ok ho f) (upF_grid hu ho ho' f).1
 have key2 : ∀ f, brV (highG { m with fans := F } f) p ≤ brV (highG m f) p := fun f => brV_mono ho hp (high_ok ho' f) (high_ok ho f) (upF_grid hu ho ho' f).2
 unfold airS lowsV highsV
 rw [ef]
 constructor
 ·have h1 := minL_is (l := (failsH m).map fun f => brV (lowG { m with fans := F } f) p) (by simpa using hne)
  have h2 := minL_is (l := (failsH m).map fun f => brV (lowG m f) p) (by simpa using hne)
  obtain ⟨f, hf, e⟩ := List.mem_map.1 h2.1
  have h3 := h1.2 _ (List.mem_map.2 ⟨f, hf, rfl⟩)
  have := key1 f
  omega
 ·have h1 := maxL_is (l := (failsH m).map fun f => brV (highG { m with fans := F } f) p) (by simpa using hne)
  have h2 := maxL_is (l := (failsH m).map fun f => brV (highG m f) p) (by simpa using hne)
  obtain ⟨f, hf, e⟩ := List.mem_map.1 h1.1
  have h3 := h2.2 _ (List.mem_map.2 ⟨f, hf, rfl⟩)
  have := key2 f
  omega
theorem upF_at (hu : UpF m.fans F) (ho : HOk m) (ho' : HOk { m with fans := F }) (f : Fl) {r k : Nat} (hr : r < m.rooms.length) (hk : k < m.hours.toNat) : brV (lowG { m with fans := F } f) (rstP m.hours.toNat k r) ≤ brV (lowG m f) (rstP m.hours.toNat k r) ∧ brV (highG { m with fans := F } f) (rstP m.hours.toNat k r) ≤ brV (highG m f) (rstP m.hours.toNat k r) := by
 have hh := ho.hours
 have hs := stt_ok ho r
 have a1 := (lows_get { m with fans := F } f (R := m.rooms.length) hr).1
 have a2 := (lows_get m f hr).1
 have b1 := (lows_get { m with fans := F } f (R := m.rooms.length) hr).2
 have b2 := (lows_get m f hr).2
 have c1 := brV_rest (low_ok ho f) hr hk
 have c2 := brV_rest (R := m.rooms.length) (n := m.hours.toNat) (low_ok ho' f) hr hk
 have d1 := brV_rest (high_ok ho f) hr hk
 have d2 := brV_rest (R := m.rooms.length) (n := m.hours.toNat) (high_ok ho' f) hr hk
 rw [c1, c2, d1, d2]
 have e1 : ((lowG m f).getD r []).getD k 0 = nowF m f r (fun _ => (m.rooms.getD r rm0).lo) (k + 1) := by
  unfold lowG; simp only [List.getD, a2, Option.getD_some]; erw [row_get hk]; rfl
 have e2 : ((lowG { m with fans := F } f).getD r []).getD k 0 = nowF { m with fans := F } f r (fun _ => (m.rooms.getD r rm0).lo) (k + 1) := by
  unfold lowG
  change (((lowsP { m with fans := F } f m.rooms.length).getD r []).getD k 0) = _
  simp only [List.getD, a1, Option.getD_some]; erw [row_get hk]; rfl
 have e3 : ((highG m f).getD r []).getD k 0 = nowF m f r (fun _ => (m.rooms.getD r rm0).hi) (k + 1) := by
  unfold highG; simp only [List.getD, b2, Option.getD_some]; erw [row_get hk]; rfl
 have e4 : ((highG { m with fans := F } f).getD r []).getD k 0 = nowF { m with fans := F } f r (fun _ => (m.rooms.getD r rm0).hi) (k + 1) := by
  unfold highG
  change (((highsP { m with fans := F } f m.rooms.length).getD r []).getD k 0) = _
  simp only [List.getD, b1, Option.getD_some]; erw [row_get hk]; rfl
 rw [e1, e2, e3, e4]
 exact ⟨upF_now hu ho ho' f r (fun _ => by show 0 ≤ (m.rooms.getD r rm0).lo ∧ (m.rooms.getD r rm0).lo ≤ 50; omega) _ (by omega), upF_now hu ho ho' f r (fun _ => by show 0 ≤ (m.rooms.getD r rm0).hi ∧ (m.rooms.getD r rm0).hi ≤ 50; omega) _ (by omega)⟩
theorem upF_known (hu : UpF m.fans F) (ho : HOk m) (ho' : HOk { m with fans := F }) {r k : Nat} (hr : r < m.rooms.length) (hk : k < m.hours.toNat) : (airS { m with fans := F } (rstP m.hours.toNat k r)).1 ≤ (airS m (rstP m.hours.toNat k r)).1 ∧ (airS { m with fans := F } (rstP m.hours.toNat k r)).2 ≤ (airS m (rstP m.hours.toNat k r)).2 := by
 have hne : failsH m ≠ [] := fun e => by have := fails_1 m; rw [e] at this; simp at this
 have ef := upF_fails (m := m) hu
 have key := fun f => upF_at hu ho ho' f hr hk
 generalize rstP m.hours.toNat k r = p at *
 unfold airS lowsV highsV
 rw [ef]
 constructor
 ·have h1 := minL_is (l := (failsH m).map fun f => brV (lowG { m with fans := F } f) p) (by simpa using hne)
  have h2 := minL_is (l := (failsH m).map fun f => brV (lowG m f) p) (by simpa using hne)
  obtain ⟨f, hf, e⟩ := List.mem_map.1 h2.1
  have h3 := h1.2 _ (List.mem_map.2 ⟨f, hf, rfl⟩)
  have := (key f).1
  omega
 ·have h1 := maxL_is (l := (failsH m).map fun f => brV (highG { m with fans := F } f) p) (by simpa using hne)
  have h2 := maxL_is (l := (failsH m).map fun f => brV (highG m f) p) (by simpa using hne)
  obtain ⟨f, hf, e⟩ := List.mem_map.1 h1.1
  have h3 := h2.2 _ (List.mem_map.2 ⟨f, hf, rfl⟩)
  have := (key f).2
  omega
theorem upF_set {i : Nat} {x : Fa} (hx : m.fans[i]? = some x) {d : Int} (h : x.draws ≤ d) : UpF m.fans (m.fans.set i ⟨x.room, d⟩) := by
 have hi := (List.getElem?_eq_some_iff.1 hx).1
 refine ⟨by simp, fun j y hy => ?_⟩
 rw [List.getElem?_set]
 by_cases e : i = j
 ·subst e
  rw [hx] at hy
  cases hy
  exact ⟨⟨x.room, d⟩, by simp [hi], rfl, h⟩
 ·exact ⟨y, by simp [e, hy], rfl, Int.le_refl _⟩
end
section
variable {m : Hs} {H : List Ha}
theorem upH_drawn (f : Fl) (r k : Nat) : ∀ j, drawnP { m with hands := H } f r k j = drawnP m f r k j := by
 intro j
 induction j with
 | zero => rfl
 | succ j ih => simp only [drawnP, ih]
theorem upH_now (f : Fl) (r : Nat) (md : Nat → Int) : ∀ n, nowF { m with hands := H } f r md n = nowF m f r md n := by
 intro n
 induction n with
 | zero => rfl
 | succ n ih =>
  have e : runsB { m with hands := H } f r n = runsB m f r n := rfl
  rw [now_next, now_next, ih, upH_drawn, e]
theorem upH_row (f : Fl) (r : Nat) (md : Nat → Int) : ∀ n, rowF { m with hands := H } f r md n = rowF m f r md n := by
 intro n
 induction n with
 | zero => rfl
 | succ n ih => unfold rowF; rw [ih, upH_now]
theorem upH_lows (f : Fl) : ∀ R, lowsP { m with hands := H } f R = lowsP m f R ∧ highsP { m with hands := H } f R = highsP m f R := by
 intro R
 induction R with
 | zero => exact ⟨rfl, rfl⟩
 | succ R ih =>
  unfold lowsP highsP
  simp only [ih.1, ih.2, upH_row, and_self]
theorem upH_air (p : List Int) : airS { m with hands := H } p = airS m p := by
 have e1 : ∀ f, lowG { m with hands := H } f = lowG m f := fun f => (upH_lows f _).1
 have e2 : ∀ f, highG { m with hands := H } f = highG m f := fun f => (upH_lows f _).2
 have e3 : failsH { m with hands := H } = failsH m := rfl
 unfold airS lowsV highsV
 simp only [e1, e2, e3]
theorem upH_ros (hl : H.length = m.hands.length) (g : List (List Int)) : rosB { m with hands := H } g = rosB m g := by
 unfold rosB
 simp only [hl]
 rfl
theorem upH_bool {j li : Nat} {x : Ha} (hx : m.hands[j]? = some x) {l : Int} (h1 : 0 ≤ l ∧ l ≤ 2000) (hb : houseB m = true) : houseB { m with hands := m.hands.set j ⟨l, x.most⟩ } = true := by
 unfold houseB at hb ⊢
 simp only [Bool.and_eq_true] at hb ⊢
 obtain ⟨⟨⟨⟨⟨⟨⟨⟨h1', h2⟩, h3⟩, h4⟩, h5⟩, h6⟩, h7⟩, h8⟩, h9⟩ := hb
 refine ⟨⟨⟨⟨⟨⟨⟨⟨h1', h2⟩, h3⟩, ?_⟩, h5⟩, h6⟩, h7⟩, h8⟩, ?_⟩
 ·simpa using h4
 ·simp only [Bool.not_eq_true', List.any_eq_false] at h9 ⊢
  intro y hy
  rcases List.mem_or_eq_of_mem_set hy with h | rfl
  ·exact h9 y h
  ·have := h9 x (List.mem_of_getElem? hx)
   unfold handB at this ⊢
   simp only [Bool.not_eq_true, Bool.not_eq_false', Bool.and_eq_true, Bool.not_eq_false] at this ⊢
   exact ⟨inB_iff.2 h1, this.2⟩
theorem upH_staf {j : Nat} {x : Ha} (hx : m.hands[j]? = some x) {l : Int} (h1 : x.limit ≤ l) {g : List (List Int)} (h : stafB m g = true) : stafB { m with hands := m.hands.set j ⟨l, x.most⟩ } g = true := by
 unfold stafB at h ⊢
 rw [List.all_eq_true] at h ⊢
 intro i hi
 have := h i hi
 simp only [Bool.and_eq_true, decide_eq_true_eq] at this ⊢
 have hj : j < m.hands.length := (List.getElem?_eq_some_iff.1 hx).1
 have e1 : mostAt { m with hands := m.hands.set j ⟨l, x.most⟩ } i = mostAt m i := by
  unfold mostAt
  simp only [List.getElem?_set]
  by_cases e : j = i
  ·subst e; simp only [if_true, hj, hx]
  ·simp only [if_neg e]
 have e2 : limAt m i ≤ limAt { m with hands := m.hands.set j ⟨l, x.most⟩ } i := by
  unfold limAt
  simp only [List.getElem?_set]
  by_cases e : j = i
  ·subst e; simp only [if_true, hj, hx]; exact h1
  ·simp only [if_neg e]; exact Int.le_refl _
 rw [e1, upH_air]
 exact ⟨this.1, Int.le_trans this.2 e2⟩
end
end Go.AM
