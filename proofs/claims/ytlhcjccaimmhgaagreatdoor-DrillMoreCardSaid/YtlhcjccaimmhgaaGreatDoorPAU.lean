/-
  A part of the proof: contracts of functions.
-/
import Derived.Test.YtlhcjccaimmhgaaGreatDoorPAT
import Derived.Test.YtlhcjccaimmhgaaGreatDoorPAQ
import Derived.Test.YtlhcjccaimmhgaaGreatDoorPAO
import Derived.Test.YtlhcjccaimmhgaaGreatDoorPAP
import Derived.Test.YtlhcjccaimmhgaaGreatDoorPAN
set_option linter.unusedSimpArgs false
set_option linter.unusedVariables false
set_option linter.unusedSectionVars false
namespace Go.AM
open Go
variable [Keep]
theorem allS_sub (b : Int) : ∀ (L : List Lim) (s : Sp), s.lo ≤ (allS b L s).lo ∧ (allS b L s).hi ≤ s.hi := by
 intro L
 induction L with
 | nil => intro s; exact ⟨Int.le_refl _, Int.le_refl _⟩
 | cons m r ih =>
  intro s
  simp only [allS]
  split
  ·have := ih (interS s m.sp)
   simp only [interS_lo, interS_hi] at this
   omega
  ·exact ih s
theorem allS_lim (b : Int) : ∀ (L : List Lim) (s : Sp), ∀ m ∈ L, m.b = b → m.lo ≤ (allS b L s).lo ∧ (allS b L s).hi ≤ m.hi := by
 intro L
 induction L with
 | nil => intro s m h; simp at h
 | cons x r ih =>
  intro s m hm hb
  simp only [allS]
  rcases List.mem_cons.1 hm with rfl | hm
  ·rw [if_pos (by simpa using hb)]
   have := allS_sub b r (interS s m.sp)
   simp only [interS_lo, interS_hi, Lim.sp] at this
   simp only [Lim.sp]
   omega
  ·split
   ·exact ih _ m hm hb
   ·exact ih _ m hm hb
theorem on_lim (ax : Ax) (k : Nat) : ∀ m ∈ ax.limits, m.b = (k : Int) → m.lo ≤ (onS ax k).lo ∧ (onS ax k).hi ≤ m.hi := by
 intro m hm hb
 cases k with
 | zero => exact allS_lim _ _ _ m hm hb
 | succ k => exact allS_lim _ _ _ m hm hb
theorem back_eq (ax : Ax) : ∀ (n : Nat) (out : List Sp), n < out.length → ∀ j, j < n → (backS ax n out).getD j ⟨0, 0⟩ = interS (out.getD j ⟨0, 0⟩) (prvS ax ((backS ax n out).getD (j + 1) ⟨0, 0⟩)) := by
 intro n
 induction n with
 | zero => intro out _ j hj; omega
 | succ n ih =>
  intro out hn j hj
  simp only [backS]
  by_cases hjn : j < n
  ·rw [ih _ (by simp; omega) j hjn, getD_set_ne (by omega)]
  ·obtain rfl : j = n := by omega
   rw [back_keep _ _ _ _ (Nat.le_refl _), back_keep _ _ _ _ (by omega), getD_set_same (by omega), getD_set_ne (by omega)]
theorem any_not {l : List Sp} (h : l.any empS = false) {j : Nat} (hj : j < l.length) : (l.getD j ⟨0, 0⟩).lo ≤ (l.getD j ⟨0, 0⟩).hi := by
 have := List.any_eq_false.1 h l[j] (List.getElem_mem hj)
 simp only [empS, decide_eq_true_eq] at this
 simp [List.getD, hj]
 omega
structure Bnd (c w : Sp) (L : List Lim) (t : List Sp) : Prop where
 len : t.length = 13
 ne : ∀ j, j ≤ 12 → (t.getD j ⟨0, 0⟩).lo ≤ (t.getD j ⟨0, 0⟩).hi
 sub : ∀ j, j ≤ 12 → (onS ⟨c, w, L⟩ j).lo ≤ (t.getD j ⟨0, 0⟩).lo ∧ (t.getD j ⟨0, 0⟩).hi ≤ (onS ⟨c, w, L⟩ j).hi
 small : ∀ j, j ≤ 12 → -48 ≤ (t.getD j ⟨0, 0⟩).lo ∧ (t.getD j ⟨0, 0⟩).hi ≤ 48
 lo : ∀ j, j < 12 → (t.getD j ⟨0, 0⟩).lo = max (onS ⟨c, w, L⟩ j).lo ((t.getD (j + 1) ⟨0, 0⟩).lo - w.hi)
 hi : ∀ j, j < 12 → (t.getD j ⟨0, 0⟩).hi = min (onS ⟨c, w, L⟩ j).hi ((t.getD (j + 1) ⟨0, 0⟩).hi - w.lo)
theorem bnd_of {c w : Sp} {L : List Lim} (g : Good c w L) {t : List Sp} (ht : boundsS ⟨c, w, L⟩ = some t) : Bnd c w L t := by
 rw [bounds_good g] at ht
 unfold refS at ht
 split at ht
 ·cases ht
 rename_i hne
 have hne : (backS ⟨c, w, L⟩ 12 ((List.range 13).map (onS ⟨c, w, L⟩))).any empS = false := by simpa using hne
 have ht := Option.some.inj ht
 have w1 := g.w1
 have w2 := g.w2
 have w3 := g.w3
 have hlen : t.length = 13 := by rw [← ht, back_len]; simp
 rw [ht] at hne
 have nep : ∀ j, j ≤ 12 → (t.getD j ⟨0, 0⟩).lo ≤ (t.getD j ⟨0, 0⟩).hi := fun j hj => any_not hne (by omega)
 have heq : ∀ j, j < 12 → t.getD j ⟨0, 0⟩ = interS (onS ⟨c, w, L⟩ j) (prvS ⟨c, w, L⟩ (t.getD (j + 1) ⟨0, 0⟩)) := fun j hj => by
  have := back_eq ⟨c, w, L⟩ 12 ((List.range 13).map (onS ⟨c, w, L⟩)) (by simp) j hj
  rw [ht, on_list _ (by omega)] at this
  exact this
 have hlast : t.getD 12 ⟨0, 0⟩ = onS ⟨c, w, L⟩ 12 := by
  have := back_keep ⟨c, w, L⟩ 12 ((List.range 13).map (onS ⟨c, w, L⟩)) 12 (Nat.le_refl _)
  rw [ht, on_list _ (by omega)] at this
  exact this
 have sub : ∀ j, j ≤ 12 → (onS ⟨c, w, L⟩ j).lo ≤ (t.getD j ⟨0, 0⟩).lo ∧ (t.getD j ⟨0, 0⟩).hi ≤ (onS ⟨c, w, L⟩ j).hi := fun j hj => by
  rcases Nat.lt_or_ge j 12 with q | q
  ·rw [heq j q]
   simp only [interS_lo, interS_hi]
   omega
  ·obtain rfl : j = 12 := by omega
   rw [hlast]
   omega
 have small : ∀ j, j ≤ 12 → -48 ≤ (t.getD j ⟨0, 0⟩).lo ∧ (t.getD j ⟨0, 0⟩).hi ≤ 48 := fun j hj => by
  have := on_bd g j (by omega)
  have := sub j hj
  omega
 have prv : ∀ j, j < 12 → (prvS ⟨c, w, L⟩ (t.getD (j + 1) ⟨0, 0⟩)).lo = (t.getD (j + 1) ⟨0, 0⟩).lo - w.hi ∧ (prvS ⟨c, w, L⟩ (t.getD (j + 1) ⟨0, 0⟩)).hi = (t.getD (j + 1) ⟨0, 0⟩).hi - w.lo := fun j hj => by
  have q := small (j + 1) (by omega)
  have e := nep (j + 1) (by omega)
  generalize t.getD (j + 1) ⟨0, 0⟩ = s at *
  exact ⟨wrap_small (show -4611686018427387904 ≤ s.lo - w.hi by omega) (show s.lo - w.hi ≤ 4611686018427387904 by omega), wrap_small (show -4611686018427387904 ≤ s.hi - w.lo by omega) (show s.hi - w.lo ≤ 4611686018427387904 by omega)⟩
 refine ⟨hlen, nep, sub, small, fun j hj => ?_, fun j hj => ?_⟩
 ·rw [congrArg Sp.lo (heq j hj), interS_lo, (prv j hj).1]
 ·rw [congrArg Sp.hi (heq j hj), interS_hi, (prv j hj).2]
def endsL (e : Sp → Int) (t : List Sp) : List Int := (List.range 13).map fun j => e (t.getD j ⟨0, 0⟩)
theorem ends_get (e : Sp → Int) (t : List Sp) {j : Nat} (hj : j < 13) : (endsL e t).getD j 0 = e (t.getD j ⟨0, 0⟩) := by
 simp [endsL, List.getD, hj]
theorem on_nxt {c w : Sp} {L : List Lim} (g : Good c w L) {j : Nat} (hj : j < 12) : (onS ⟨c, w, L⟩ j).lo + w.lo ≤ (onS ⟨c, w, L⟩ (j + 1)).lo ∧ (onS ⟨c, w, L⟩ (j + 1)).hi ≤ (onS ⟨c, w, L⟩ j).hi + w.hi := by
 have h1 := allS_sub ((j + 1 : Nat) : Int) L (nxtS ⟨c, w, L⟩ (onS ⟨c, w, L⟩ j))
 obtain ⟨e1, e2⟩ := nxt_small g (by omega) (by omega) (on_bd g j (by omega))
 rw [e1, e2] at h1
 exact h1
theorem ends_fit {c w : Sp} {L : List Lim} (g : Good c w L) (hL : ∀ m ∈ L, 0 ≤ m.b ∧ m.b ≤ 12) {t : List Sp} (b : Bnd c w L t) (e : Sp → Int) (he : (∀ s, e s = s.lo) ∨ (∀ s, e s = s.hi)) : fitsA ⟨c, w, L⟩ (endsL e t) = true := by
 have w1 := g.w1
 have w2 := g.w2
 have w3 := g.w3
 have val : ∀ j, j ≤ 12 → (t.getD j ⟨0, 0⟩).lo ≤ e (t.getD j ⟨0, 0⟩) ∧ e (t.getD j ⟨0, 0⟩) ≤ (t.getD j ⟨0, 0⟩).hi := fun j hj => by
  have := b.ne j hj
  rcases he with he | he <;> rw [he] <;> omega
 simp only [fitsA, Bool.and_eq_true]
 refine ⟨?_, List.all_eq_true.2 fun k hk => ?_, List.all_eq_true.2 fun m hm => ?_⟩
 ·rw [ends_get e t (by omega)]
  have h1 := val 0 (by omega)
  have h2 := b.sub 0 (by omega)
  have h3 := allS_sub 0 L c
  have h4 : onS ⟨c, w, L⟩ 0 = allS 0 L c := rfl
  rw [h4] at h2
  simp only [inB, Bool.and_eq_true, decide_eq_true_eq]
  omega
 ·have hk : k < 12 := by simpa using hk
  simp only [stepB]
  rw [ends_get e t (by omega), ends_get e t (by omega)]
  have h1 := b.small k (by omega)
  have h2 := b.small (k + 1) (by omega)
  have h3 := val k (by omega)
  have h4 := val (k + 1) (by omega)
  have h5 := b.lo k hk
  have h6 := b.hi k hk
  have h7 := b.sub (k + 1) (by omega)
  have h8 := on_nxt g hk
  have hw : w64 (e (t.getD (k + 1) ⟨0, 0⟩) - e (t.getD k ⟨0, 0⟩)) = e (t.getD (k + 1) ⟨0, 0⟩) - e (t.getD k ⟨0, 0⟩) := wrap_small (by omega) (by omega)
  rw [hw]
  simp only [inB, Bool.and_eq_true, decide_eq_true_eq]
  rcases he with he | he <;> simp only [he] at * <;> omega
 ·have hb := hL m hm
  have hm2 : m.b = (m.b.toNat : Int) := by omega
  have h1 := on_lim ⟨c, w, L⟩ m.b.toNat m hm hm2
  simp only [inL]
  rw [ends_get e t (by omega)]
  have h2 := val m.b.toNat (by omega)
  have h3 := b.sub m.b.toNat (by omega)
  simp only [inB, Bool.and_eq_true, decide_eq_true_eq]
  omega
theorem ends_ok {c w : Sp} {L : List Lim} {t : List Sp} (b : Bnd c w L t) (e : Sp → Int) (he : (∀ s, e s = s.lo) ∨ (∀ s, e s = s.hi)) : (endsL e t).length = 13 ∧ (endsL e t).all okN = true := by
 refine ⟨by simp [endsL], List.all_eq_true.2 fun x hx => ?_⟩
 obtain ⟨j, hj, rfl⟩ := List.mem_map.1 hx
 have hj : j < 13 := by simpa using hj
 have h1 := b.small j (by omega)
 have h2 := b.ne j (by omega)
 simp only [okN, inB, Bool.and_eq_true, decide_eq_true_eq]
 rcases he with he | he <;> simp only [he] <;> omega
end Go.AM
set_option maxRecDepth 100000
namespace Go.AM
open Go Go.Proofs
variable [Keep]
attribute [local irreducible] W WO WO1 WD WQ WT thenQ blockQ endR isRet retK Cl ClR
attribute [local irreducible] matchS goodB goodR boundsS machB measB sureW
theorem calm_ef {X : Ctx} {f : FuncId} {ops : Array Oper} {ts : List (Nat × Trace)} {i k : Nat} {r : List (Nat × Nat)} {x : Oper} {d : Option Tmp} {op : Op} {T : TypeId} {ps : String} {af : Array Edge}
  {f1 f2 : FuncId} {r1 r2 : Bool} {e1 e2 : Mp AV} {lm1 lm2 : Mp (Nat × List AV)} {hp1 hp2 : Heap} {df1 df2 : List (AV × List AV)} {up1 up2 : Option (AV × Bool)} {v1 v2 : AV} {a1 a2 : Fr}
  (h1 : ops[i]? = some x) (h2 : ops[k]? = some ⟨d, op, T, ps, af, none⟩) (h3 : traceOf ts i = some ⟨Fr.mk f1 r1 e1 lm1 hp1 df1 up1, v1, a1⟩) (h4 : traceOf ts k = some ⟨Fr.mk f2 r2 e2 lm2 hp2 df2 up2, v2, a2⟩)
  (h5 : isEffD X f x = true) (h7 : rdV X (Fr.mk f2 r2 e2 lm1 hp1 df2 up2) d op = some v2) (h8 : r.all (calmPair X f ops ts) = true) : ((i, k) :: r).all (calmPair X f ops ts) = true := by
 simp only [List.all_cons, h8, Bool.and_true, calmPair, h1, h2, h3, h4, h5, if_true, rereads, wantedA, h7]
 exact AV.same_refl _
noncomputable def cGQ : Itr
 | 93 => some (pureFn sp93)
 | 100 => some (pureFn sp100)
 | 107 => some (pureFn sp107)
 | 138 => some (pureFn sp138)
 | _ => none
theorem cGQ_sound : Sound (dX cGQ) := dX_sound (fun f g h => by
 unfold cGQ at h
 split at h
 ·cases h; exact F93
 ·cases h; exact F100
 ·cases h; exact F107
 ·cases h; exact F138
 ·cases h)
def sureF (ok : Bool) (A B : Option (List Sp)) (G : Pt → Bool) (blank : Int) : AV :=
 if ok then (match A, B with
  | some a, some b => .tuple [.int .i64 (sureW G (a.getD blank.toNat ⟨0, 0⟩) (b.getD blank.toNat ⟨0, 0⟩)), .int .i64 0]
  | _, _ => .tuple [.int .i64 0, .int .i64 7]) else .tuple [.int .i64 0, .int .i64 2]
def sp43 : List AV → Option AV
 | [.agg [ca, .int .i64 off], .agg [sa, .int .i64 cxl, .int .i64 cxh, .int .i64 cyl, .int .i64 cyh, .int .i64 wxl, .int .i64 wxh, .int .i64 wyl, .int .i64 wyh, ra], .int .i64 blank] => match slV ptC ca, slV ptC sa, slV rdgC ra with
  | some hs, some st, some rs => some (sureF (askOk hs st off (machB st ⟨cxl, cxh⟩ ⟨cyl, cyh⟩ ⟨wxl, wxh⟩ ⟨wyl, wyh⟩ rs) (inB blank 1 12)) (boundsS (ax0 ⟨cxl, cxh⟩ ⟨wxl, wxh⟩ rs [])) (boundsS (ax1 ⟨cyl, cyh⟩ ⟨wyl, wyh⟩ rs [])) (goodB off hs st) blank)
  | _, _, _ => none
 | _ => none
theorem p43 : ∀ args v, sp43 args = some v → v.pur = true := by
 intro args v h
 unfold sp43 at h
 split at h
 ·split at h
  ·have h := Option.some.inj h
   subst h
   unfold sureF
   split
   ·split <;> rfl
   ·rfl
  ·cases h
 ·cases h
theorem sp_ok {c w : Sp} {L : List Lim} {t : List Sp} (b : Bnd c w L t) {k : Nat} (hk : k ≤ 12) : SpOk (t.getD k ⟨0, 0⟩) := by
 have h1 := b.small k hk
 have h2 := b.ne k hk
 exact ⟨by omega, by omega, by omega, by omega⟩
theorem spans_ok {st : List Pt} {cx cy wx wy : Sp} {rs : List Rdg} (h : machB st cx cy wx wy rs = true) {a b : List Sp} (ha : boundsS (ax0 cx wx rs []) = some a) (hb : boundsS (ax1 cy wy rs []) = some b) {k : Nat} (hk : k ≤ 12) : SpOk (a.getD k ⟨0, 0⟩) ∧ SpOk (b.getD k ⟨0, 0⟩) := by
 have e1 : ax0 cx wx rs [] = ⟨cx, wx, lims155 rs⟩ := by simp [ax0]
 have e2 : ax1 cy wy rs [] = ⟨cy, wy, lims156 rs⟩ := by simp [ax1]
 rw [e1] at ha
 rw [e2] at hb
 exact ⟨sp_ok (bnd_of (good_x h) ha) hk, sp_ok (bnd_of (good_y h) hb) hk⟩
theorem ask_ok {hs st : List Pt} {off : Int} {m fine : Bool} (h : askOk hs st off m fine = true) : measB hs off = true ∧ m = true ∧ hs.length = st.length ∧ fine = true ∧ 1 ≤ st.length ∧ st.length ≤ 8 := by
 unfold askOk at h
 simp only [Bool.and_eq_true, decide_eq_true_eq] at h
 obtain ⟨⟨⟨h1, h2⟩, h3⟩, h4⟩ := h
 have := meas_len h1
 exact ⟨h1, h2, by omega, h4, by omega, by omega⟩
set_option maxHeartbeats 8000000 in
theorem F43 : IntrFn Tryz.prog 43 (pureFn sp43) := by
 refine pure_fn (X := dX cGQ) cGQ_sound p43 ?_
 intro args v h
 unfold sp43 at h
 split at h
 ·rename_i ca off sa cxl cxh cyl cyh wxl wxh wyl wyh ra blank
  split at h
  ·rename_i hs st rs hc hl hr
   have h := Option.some.inj h
   subst h
   have o1 := sl_out hc
   have o2 := sl_out hl
   have o3 := sl_out hr
   obtain ⟨one1, t1⟩ := sl_one hc
   obtain ⟨one2, t2⟩ := sl_one hl
   obtain ⟨one3, t3⟩ := sl_one hr
   have k107 : ∀ h, Cl (dX cGQ) 107 [.agg [ca, .int .i64 off], .agg [sa, .int .i64 cxl, .int .i64 cxh, .int .i64 cyl, .int .i64 cyh, .int .i64 wxl, .int .i64 wxh, .int .i64 wyl, .int .i64 wyh, ra], .bool (inB blank 1 12)] h (.ret (askV (askOk hs st off (machB st ⟨cxl, cxh⟩ ⟨cyl, cyh⟩ ⟨wxl, wxh⟩ ⟨wyl, wyh⟩ rs) (inB blank 1 12)) (boundsS (ax0 ⟨cxl, cxh⟩ ⟨wxl, wxh⟩ rs [])) (boundsS (ax1 ⟨cyl, cyh⟩ ⟨wyl, wyh⟩ rs []))) h none) := fun h => Cl.intr (g := pureFn sp107) rfl (by simp [pureFn, AV.pur, AV.purL, sl_pur hc, sl_pur hl, sl_pur hr, sp107, hc, hl, hr])
   have h102 := fun n m => C102 cGQ rfl sa ra ⟨cxl, cxh⟩ ⟨cyl, cyh⟩ ⟨wxl, wxh⟩ ⟨wyl, wyh⟩ (slV_is hl).1.frz1 (slV_is hr).1.frz1 n m
   have H102 := Lib.hid h102
   have b20 : ((2 : Int) != 0) = true := rfl
   have b70 : ((7 : Int) != 0) = true := rfl
   have b00 : ((0 : Int) != 0) = false := rfl
   cases hok : askOk hs st off (machB st ⟨cxl, cxh⟩ ⟨cyl, cyh⟩ ⟨wxl, wxh⟩ ⟨wyl, wyh⟩ rs) (inB blank 1 12) with
   | false =>
    rw [hok] at k107
    simp only [askV, Bool.false_eq_true, if_false] at k107
    simp only [sureF, Bool.false_eq_true, if_false]
    clear hc hl hr h102 H102 hok
    refine ClR.walk (c := _) rfl Tryz.func43 rfl (by kernel_rfl) rfl isRet_fail ?_
    simp only [entryEnv, Nat.reduceAdd, emptyHp]
    repeat' (first | (apply W.draw (id := 1) (lc := [8, 0, 1, 2, 3, 4, 5, 6, 7, 9, 10]) (hot := [(0, 3), (1, 3)]); kernel_rfl; kernel_rfl; kernel_rfl; exact Z4) | (apply WD.alloc (o := ⟨some 8, .alloc 147, 0, _, _, none⟩); exact rfl; exact rfl; exact Z1; simp only [pM, pN]) | (refine WD.nil ⟨?_, ?_⟩; rotate_left; simp only [tN, bN, eN, true_and]) | (refine WD.cons rfl rfl ?_) | (refine calm_rd rfl rfl rfl rfl rfl ?_ ?_; (focus (first | exact Z2 | exact Z1))) | (with_reducible refine calm_end) | refine go1 ?_ | (apply U6; exact Z1; exact Z1; (focus (simp only [List.nil_append, List.append_nil]; first | exact K93 rfl _ _ _ _ | exact k107 _)); simp only [pM, pN, rR, rP]) | refine go2 (fun hh => ?_) (fun hh => ?_) | fail)
    all_goals (simp only [resV_def (X := dX cGQ) Tryz.func43, Tryz.results43]; first | exact J5 | refine J6 ?_)
   | true =>
    obtain ⟨m1, m2, hlen, hin, hl1, hl8⟩ := ask_ok hok
    rw [hok] at k107
    simp only [askV, if_true] at k107
    simp only [sureF, if_true]
    rw [hin] at k107
    have k93 : ∀ h, Cl (dX cGQ) 93 [.int .i64 blank, .int .i64 1, .int .i64 12] h (.ret (.bool true) h none) := fun h => by
     have := K93 (X := dX cGQ) rfl blank 1 12 h
     rw [hin] at this
     exact this
    cases hA : boundsS (ax0 ⟨cxl, cxh⟩ ⟨wxl, wxh⟩ rs []) with
    | none =>
     rw [hA] at k107
     clear hc hl hr h102 H102 hok hA hin
     refine ClR.walk (c := _) rfl Tryz.func43 rfl (by kernel_rfl) rfl isRet_fail ?_
     simp only [entryEnv, Nat.reduceAdd, emptyHp]
     repeat' (first | (apply W.draw (id := 1) (lc := [8, 0, 1, 2, 3, 4, 5, 6, 7, 9, 10]) (hot := [(0, 3), (1, 3)]); kernel_rfl; kernel_rfl; kernel_rfl; exact Z4) | (apply WD.alloc (o := ⟨some 8, .alloc 147, 0, _, _, none⟩); exact rfl; exact rfl; exact Z1; simp only [pM, pN]) | (refine WD.nil ⟨?_, ?_⟩; rotate_left; simp only [tN, bN, eN, true_and]) | (refine WD.cons rfl rfl ?_) | (refine calm_rd rfl rfl rfl rfl rfl ?_ ?_; (focus (first | exact Z2 | exact Z1))) | (with_reducible refine calm_end) | refine go1 ?_ | (apply U6; exact Z1; exact Z1; (focus (simp only [List.nil_append, List.append_nil]; first | exact k93 _ | exact k107 _)); simp only [pM, pN, rR, rP]) | refine go2 (fun hh => ?_) (fun hh => ?_) | fail)
     all_goals (simp only [resV_def (X := dX cGQ) Tryz.func43, Tryz.results43]; first | exact J5 | refine J6 ?_)
    | some a =>
     cases hB : boundsS (ax1 ⟨cyl, cyh⟩ ⟨wyl, wyh⟩ rs []) with
     | none =>
      rw [hA, hB] at k107
      clear hc hl hr h102 H102 hok hA hB hin
      refine ClR.walk (c := _) rfl Tryz.func43 rfl (by kernel_rfl) rfl isRet_fail ?_
      simp only [entryEnv, Nat.reduceAdd, emptyHp]
      repeat' (first | (apply W.draw (id := 1) (lc := [8, 0, 1, 2, 3, 4, 5, 6, 7, 9, 10]) (hot := [(0, 3), (1, 3)]); kernel_rfl; kernel_rfl; kernel_rfl; exact Z4) | (apply WD.alloc (o := ⟨some 8, .alloc 147, 0, _, _, none⟩); exact rfl; exact rfl; exact Z1; simp only [pM, pN]) | (refine WD.nil ⟨?_, ?_⟩; rotate_left; simp only [tN, bN, eN, true_and]) | (refine WD.cons rfl rfl ?_) | (refine calm_rd rfl rfl rfl rfl rfl ?_ ?_; (focus (first | exact Z2 | exact Z1))) | (with_reducible refine calm_end) | refine go1 ?_ | (apply U6; exact Z1; exact Z1; (focus (simp only [List.nil_append, List.append_nil]; first | exact k93 _ | exact k107 _)); simp only [pM, pN, rR, rP]) | refine go2 (fun hh => ?_) (fun hh => ?_) | fail)
      all_goals (simp only [resV_def (X := dX cGQ) Tryz.func43, Tryz.results43]; first | exact J5 | refine J6 ?_)
     | some b =>
      have hb := hin
      simp only [inB, Bool.and_eq_true, decide_eq_true_eq] at hb
      obtain ⟨k, rfl⟩ : ∃ k : Nat, blank = k := ⟨blank.toNat, by omega⟩
      have hla := boundsS_len hA
      have hlb := boundsS_len hB
      obtain ⟨p, hp⟩ := get_some (show k < a.length by omega)
      obtain ⟨q, hq⟩ := get_some (show k < b.length by omega)
      have ea : slN (a.map spC.enc) = .vslice (a.map spC.enc) := by cases a with | nil => simp at hla | cons x l => rfl
      have eb : slN (b.map spC.enc) = .vslice (b.map spC.enc) := by cases b with | nil => simp at hlb | cons x l => rfl
      have hsp := spans_ok m2 hA hB (k := k) (by omega)
      have g1 : a.getD k ⟨0, 0⟩ = p := by simp [List.getD, hp]
      have g2 : b.getD k ⟨0, 0⟩ = q := by simp [List.getD, hq]
      rw [g1, g2] at hsp
      have htn : ((k : Nat) : Int).toNat = k := by omega
      simp only [htn, g1, g2]
      rw [hA, hB] at k107
      simp only [ea, eb] at k107
      have hcl0 := C108 cGQ rfl rfl rfl rfl sa ra ca ⟨cxl, cxh⟩ ⟨cyl, cyh⟩ ⟨wxl, wxh⟩ ⟨wyl, wyh⟩ st hs off p q 0 ⟨0 + 1, Mp.nil.set 0 (.mp [])⟩ [] hl one3 t3 o3 hc hlen hl1 hl8 hsp.1 hsp.2 rfl (fun e he => by simp at he)
      unfold ClR at hcl0
      obtain ⟨r, hcl, hcr⟩ := hcl0
      unfold sureR at hcr
      obtain ⟨h', tab', rfl, _, _, _, _⟩ := hcr
      have hi1 := sp_idx hp
      have hi2 := sp_idx hq
      have i0 := ix147_0
      have i1 := ix147_1
      generalize sureW (goodB off hs st) p q = w at *
      generalize a.map spC.enc = la at *
      generalize b.map spC.enc = lb at *
      clear hc hl hr h102 hok hA hB hla hlb hp hq ea eb hsp g1 g2 htn hin hb m1 m2 hlen hl1 hl8
      refine ClR.walk (c := _) rfl Tryz.func43 rfl (by kernel_rfl) rfl isRet_fail ?_
      simp only [entryEnv, Nat.reduceAdd, emptyHp]
      repeat' (first | (apply W.draw (id := 1) (lc := [8, 0, 1, 2, 3, 4, 5, 6, 7, 9, 10]) (hot := [(0, 3), (1, 3)]); kernel_rfl; kernel_rfl; kernel_rfl; exact Z4) | (apply W.draw (id := 4) (lc := [0, 1, 2, 3, 4, 5, 6, 7, 8, 9, 10, 11, 12, 13, 14, 15]) (hot := [(1, 2), (1, 3), (1, 4), (1, 6), (1, 7), (1, 8), (1, 9), (1, 11), (1, 12)]); kernel_rfl; kernel_rfl; kernel_rfl; exact Z4) | (apply WD.alloc (o := ⟨some 8, .alloc 147, 0, _, _, none⟩); exact rfl; exact rfl; exact Z1; simp only [pM, pN]) | (refine WD.nil ⟨?_, ?_⟩; rotate_left; simp only [tN, bN, eN, true_and]) | (refine WD.cons rfl rfl ?_) | (refine calm_rd rfl rfl rfl rfl rfl ?_ ?_; (focus (first | exact Z2 | exact Z1))) | (refine calm_ef rfl rfl rfl rfl rfl ?_ ?_; (focus (first | exact Z2 | exact Z1))) | (with_reducible refine calm_end) | refine go1 ?_ | (apply U6; exact Z1; exact Z1; (focus (simp only [List.nil_append, List.append_nil]; first | exact k93 _ | exact k107 _ | exact H102.out _ _ | exact hcl)); simp only [pM, pN, rR, rP]) | refine go2 (fun hh => ?_) (fun hh => ?_) | fail)
      all_goals (simp only [resV_def (X := dX cGQ) Tryz.func43, Tryz.results43]; first | exact J5 | refine J6 ?_)
  ·cases h
 ·cases h
end Go.AM
namespace Go.AM
open Go Go.Proofs
variable [Keep]
attribute [local irreducible] W WO WO1 WD WQ WT thenQ blockQ endR isRet retK Cl ClR
attribute [local irreducible] matchS boundsS machB measB upAny rowAny sureW
structure CntOk (g n : Int) (good bad : Bool) : Prop where
 g0 : 0 ≤ g
 gn : g ≤ n
 all : g = n ↔ bad = false
 none : g = 0 ↔ good = false
def sp45 : List AV → Option AV
 | [.agg [ca, .int .i64 off], .agg [sa, .int .i64 cxl, .int .i64 cxh, .int .i64 cyl, .int .i64 cyh, .int .i64 wxl, .int .i64 wxh, .int .i64 wyl, .int .i64 wyh, ra], .int .i64 blank] => match slV ptC ca, slV ptC sa, slV rdgC ra with
  | some hs, some st, some rs => (match boundsS (ax0 ⟨cxl, cxh⟩ ⟨wxl, wxh⟩ rs []), boundsS (ax1 ⟨cyl, cyh⟩ ⟨wyl, wyh⟩ rs []) with
   | some a, some b => if askOk hs st off (machB st ⟨cxl, cxh⟩ ⟨cyl, cyh⟩ ⟨wxl, wxh⟩ ⟨wyl, wyh⟩ rs) (inB blank 1 12) = true then some (.int .i64 (sureW (goodB off hs st) (a.getD blank.toNat ⟨0, 0⟩) (b.getD blank.toNat ⟨0, 0⟩))) else none
   | _, _ => none)
  | _, _, _ => none
 | _ => none
theorem sure_def (G : Pt → Bool) (x y : Sp) : sureW G x y = if upAny (fun p => !G p) x y (ny x) then (if upAny G x y (ny x) then 2 else 1) else 3 := by unfold sureW; rfl
end Go.AM
namespace Go.AM
open Go Go.Proofs
variable [Keep]
attribute [local irreducible] W WO WO1 WD WQ WT thenQ blockQ endR isRet retK Cl ClR
attribute [local irreducible] matchS goodB goodR boundsS machB measB sureW
def gaugeN (f : Nat → Int) : Nat := ((List.range 12).findSome? fun n => if f (n + 1) = 3 then none else some n).getD 12
theorem gauge_at {f : Nat → Int} {i : Nat} (h : ∀ j, j < i → f (j + 1) = 3) (hi : i < 12) (hn : f (i + 1) ≠ 3) : gaugeN f = i := by
 unfold gaugeN
 rw [find_some (i := i) (o := i) (fun j hj => if_pos (h j hj)) (if_neg hn) hi]
 rfl
theorem gauge_all {f : Nat → Int} (h : ∀ j, j < 12 → f (j + 1) = 3) : gaugeN f = 12 := by
 unfold gaugeN
 rw [find_none fun j hj => if_pos (h j hj)]
 rfl
def sureAt (G : Pt → Bool) (a b : List Sp) (n : Nat) : Int := sureW G (a.getD n ⟨0, 0⟩) (b.getD n ⟨0, 0⟩)
noncomputable def cGU : Itr
 | 100 => some (pureFn sp100)
 | 107 => some (pureFn sp107)
 | 138 => some (pureFn sp138)
 | _ => none
theorem cGU_sound : Sound (dX cGU) := dX_sound (fun f g h => by
 unfold cGU at h
 split at h
 ·cases h; exact F100
 ·cases h; exact F107
 ·cases h; exact F138
 ·cases h)
def gaugeF (ok : Bool) (A B : Option (List Sp)) (G : Pt → Bool) : AV :=
 if ok then (match A, B with
  | some a, some b => .tuple [.int .i64 (gaugeN (sureAt G a b) : Nat), .int .i64 0]
  | _, _ => .tuple [.int .i64 0, .int .i64 7]) else .tuple [.int .i64 0, .int .i64 2]
def sp46 : List AV → Option AV
 | [.agg [ca, .int .i64 off], .agg [sa, .int .i64 cxl, .int .i64 cxh, .int .i64 cyl, .int .i64 cyh, .int .i64 wxl, .int .i64 wxh, .int .i64 wyl, .int .i64 wyh, ra]] => match slV ptC ca, slV ptC sa, slV rdgC ra with
  | some hs, some st, some rs => some (gaugeF (askOk hs st off (machB st ⟨cxl, cxh⟩ ⟨cyl, cyh⟩ ⟨wxl, wxh⟩ ⟨wyl, wyh⟩ rs) true) (boundsS (ax0 ⟨cxl, cxh⟩ ⟨wxl, wxh⟩ rs [])) (boundsS (ax1 ⟨cyl, cyh⟩ ⟨wyl, wyh⟩ rs [])) (goodB off hs st))
  | _, _, _ => none
 | _ => none
theorem p46 : ∀ args v, sp46 args = some v → v.pur = true := by
 intro args v h
 unfold sp46 at h
 split at h
 ·split at h
  ·have h := Option.some.inj h
   subst h
   unfold gaugeF
   split
   ·split <;> rfl
   ·rfl
  ·cases h
 ·cases h
set_option maxHeartbeats 8000000 in
theorem F46 : IntrFn Tryz.prog 46 (pureFn sp46) := by
 refine pure_fn (X := dX cGU) cGU_sound p46 ?_
 intro args v h
 unfold sp46 at h
 split at h
 ·rename_i ca off sa cxl cxh cyl cyh wxl wxh wyl wyh ra
  split at h
  ·rename_i hs st rs hc hl hr
   have h := Option.some.inj h
   subst h
   have o1 := sl_out hc
   have o2 := sl_out hl
   have o3 := sl_out hr
   obtain ⟨one1, t1⟩ := sl_one hc
   obtain ⟨one2, t2⟩ := sl_one hl
   obtain ⟨one3, t3⟩ := sl_one hr
   have k107 : ∀ h, Cl (dX cGU) 107 [.agg [ca, .int .i64 off], .agg [sa, .int .i64 cxl, .int .i64 cxh, .int .i64 cyl, .int .i64 cyh, .int .i64 wxl, .int .i64 wxh, .int .i64 wyl, .int .i64 wyh, ra], .bool true] h (.ret (askV (askOk hs st off (machB st ⟨cxl, cxh⟩ ⟨cyl, cyh⟩ ⟨wxl, wxh⟩ ⟨wyl, wyh⟩ rs) true) (boundsS (ax0 ⟨cxl, cxh⟩ ⟨wxl, wxh⟩ rs [])) (boundsS (ax1 ⟨cyl, cyh⟩ ⟨wyl, wyh⟩ rs []))) h none) := fun h => Cl.intr (g := pureFn sp107) rfl (by simp [pureFn, AV.pur, AV.purL, sl_pur hc, sl_pur hl, sl_pur hr, sp107, hc, hl, hr])
   have h102 := fun n m => C102 cGU rfl sa ra ⟨cxl, cxh⟩ ⟨cyl, cyh⟩ ⟨wxl, wxh⟩ ⟨wyl, wyh⟩ (slV_is hl).1.frz1 (slV_is hr).1.frz1 n m
   have H102 := Lib.hid h102
   have b20 : ((2 : Int) != 0) = true := rfl
   have b70 : ((7 : Int) != 0) = true := rfl
   have b00 : ((0 : Int) != 0) = false := rfl
   by_cases hall : ∃ a b, askOk hs st off (machB st ⟨cxl, cxh⟩ ⟨cyl, cyh⟩ ⟨wxl, wxh⟩ ⟨wyl, wyh⟩ rs) true = true ∧ boundsS (ax0 ⟨cxl, cxh⟩ ⟨wxl, wxh⟩ rs []) = some a ∧ boundsS (ax1 ⟨cyl, cyh⟩ ⟨wyl, wyh⟩ rs []) = some b
   ·obtain ⟨a, b, hok, hA, hB⟩ := hall
    obtain ⟨m1, m2, hlen, hin, hl1, hl8⟩ := ask_ok hok
    rw [hok, hA, hB] at k107
    rw [hok, hA, hB]
    simp only [askV, if_true] at k107
    simp only [gaugeF, if_true]
    have hla := boundsS_len hA
    have hlb := boundsS_len hB
    have ea : slN (a.map spC.enc) = .vslice (a.map spC.enc) := by cases a with | nil => simp at hla | cons x l => rfl
    have eb : slN (b.map spC.enc) = .vslice (b.map spC.enc) := by cases b with | nil => simp at hlb | cons x l => rfl
    simp only [ea, eb] at k107
    have hcl1 := fun (p q : Sp) (hp : SpOk p) (hq : SpOk q) (h : Heap) (tb : List (Pt × Bool)) (q1 : h.get 0 = some (.mp (encT tb))) (q2 : TabOk (goodB off hs st) tb) => C108 cGU rfl rfl rfl rfl sa ra ca ⟨cxl, cxh⟩ ⟨cyl, cyh⟩ ⟨wxl, wxh⟩ ⟨wyl, wyh⟩ st hs off p q 0 h tb hl one3 t3 o3 hc hlen hl1 hl8 hp hq q1 q2
    have hsp := fun k (hk : k ≤ 12) => spans_ok m2 hA hB (k := k) hk
    have HSP := Lib.hid hsp
    have HLA := Lib.hid hla
    have HLB := Lib.hid hlb
    have HCL := Lib.hid hcl1
    have hi1 := fun k (p : Sp) (hp : a[k]? = some p) (H : Heap) => sp_idx hp H
    have hi2 := fun k (p : Sp) (hp : b[k]? = some p) (H : Heap) => sp_idx hp H
    have HI1 := Lib.hid hi1
    have HI2 := Lib.hid hi2
    have i0 := ix147_0
    have i1 := ix147_1
    have hsa : ∀ n, sureAt (goodB off hs st) a b n = sureW (goodB off hs st) (a.getD n ⟨0, 0⟩) (b.getD n ⟨0, 0⟩) := fun _ => rfl
    have HSA := Lib.hid hsa
    generalize goodB off hs st = G at *
    generalize hgn : gaugeN (sureAt G a b) = gn at *
    have HGN := Lib.hid hgn
    generalize sureAt G a b = sat at *
    generalize a.map spC.enc = la at *
    generalize b.map spC.enc = lb at *
    clear hc hl hr h102 hok hA hB hla hlb ea eb hsp hcl1 hi1 hi2 hsa hgn m1 m2 hlen hin hl1 hl8
    refine ClR.walk (c := _) rfl Tryz.func46 rfl (by kernel_rfl) rfl isRet_fail ?_
    simp only [entryEnv, Nat.reduceAdd, emptyHp]
    repeat' (first | refine goS ?_ | (apply U6; exact Z1; exact Z1; (focus (simp only [List.nil_append, List.append_nil]; first | exact k107 _ | exact H102.out _ _)); simp only [pM, pN, rR, rP]) | refine go2 (fun hh => ?_) (fun hh => ?_) | fail)
    refine W.loopN 12 (fun i F => ∃ e lm hp tb, F = Fr.mk 46 false e lm hp [] none ∧ (hp.get 0 = some (.mp (encT tb)) ∧ TabOk G tb) ∧ (∀ j, j < i → sat (j + 1) = 3) ∧
     lm.get 2 = some (0, [ca, .int .i64 off]) ∧ lm.get 6 = some (0, [.vslice la, .vslice lb]) ∧ lm.get 8 = some (0, [sa, .int .i64 cxl, .int .i64 cxh, .int .i64 cyl, .int .i64 cyh, .int .i64 wxl, .int .i64 wxh, .int .i64 wyl, .int .i64 wyh, ra, .map 0]) ∧
     e.get 2 = some (.lptr 2 0 0) ∧ e.get 6 = some (.lptr 6 0 0) ∧ e.get 8 = some (.lptr 8 0 0) ∧ e.get 9 = some (.int .i64 ↑i) ∧ i ≤ 12) ?_ ?_
    ·refine ⟨_, _, _, [], rfl, ⟨rfl, fun e he => by simp at he⟩, fun j hj => absurd hj (by omega), ?_, ?_, ?_, ?_, ?_, ?_, ?_, Nat.zero_le _⟩ <;> first | exact Z2 | simp [go_sem, *]
    clear k107 H102
    rintro i F ⟨e, lm, hp, tb, rfl, hhp, hall, m2, m6, m8, e2, e6, e8, e9, hi⟩
    have HHP := Lib.hid hhp
    have HALL := Lib.hid hall
    clear hhp hall
    by_cases hlt : i < 12
    ·have hd : decide ((i : Int) < 12) = true := by simp; omega
     have hw := wrap_succ (m := 12) hlt (by unfold maxL; omega)
     obtain ⟨p, hp'⟩ := get_some (show i + 1 < a.length by rw [HLA.out]; omega)
     obtain ⟨q, hq'⟩ := get_some (show i + 1 < b.length by rw [HLB.out]; omega)
     have hx1 := HI1.out (i + 1) p hp'
     have hx2 := HI2.out (i + 1) q hq'
     have hspq := HSP.out (i + 1) (by omega)
     have g1 : a.getD (i + 1) ⟨0, 0⟩ = p := by simp [List.getD, hp']
     have g2 : b.getD (i + 1) ⟨0, 0⟩ = q := by simp [List.getD, hq']
     have hst := HSA.out (i + 1)
     rw [g1, g2] at hspq hst
     have hcl0 := HCL.out p q hspq.1 hspq.2 hp tb HHP.out.1 HHP.out.2
     unfold ClR at hcl0
     obtain ⟨r, hcl, hcr⟩ := hcl0
     unfold sureR at hcr
     obtain ⟨hp2, tb2, rfl, _, n2, n3, _⟩ := hcr
     have HN := Lib.hid (show hp2.get 0 = some (.mp (encT tb2)) ∧ TabOk G tb2 from ⟨n2, n3⟩)
     generalize sureW G p q = w at *
     have HST := Lib.hid hst
     clear hp' hq' hspq g1 g2 hst n2 n3
     by_cases hw3 : w = 3
     ·have b33 : (w == 3) = true := by simp [hw3]
      have HW := Lib.hid hw3
      clear hw3
      repeat' (first | (apply W.drawQ (id := 6) (l1 := [0, 1, 2, 3, 4, 5, 6, 7, 8, 9, 10, 11, 12, 13, 14, 15, 16]) (l2 := [17, 18, 19]); kernel_rfl; kernel_rfl; kernel_rfl; exact Z4) | (apply W.drawQ (id := 6) (l1 := [0, 1, 2, 3, 4, 5, 6, 7, 8, 9, 10, 11, 12, 13, 14, 15, 16, 17, 18, 19]) (l2 := []); kernel_rfl; kernel_rfl; kernel_rfl; exact Z4) | refine go1 ?_ | (apply U6; exact Z1; exact Z1; (focus (simp only [List.nil_append, List.append_nil]; first | exact hcl)); simp only [pM, pN, rR, rP]) | refine go2 (fun hh => ?_) (fun hh => ?_) | fail)
      refine ⟨hlt, _, _, hp2, tb2, rfl, HN.out, fun j hj => ?_, ?_, ?_, ?_, ?_, ?_, ?_, ?_, by omega⟩
      ·rcases Nat.lt_or_ge j i with c | c
       ·exact HALL.out j c
       ·obtain rfl : j = i := by omega
        rw [HST.out]; exact HW.out
      all_goals exact Z2
     ·have b33 : (w == 3) = false := by simp [hw3]
      have HG := Lib.hid (gauge_at HALL.out hlt (by rw [HST.out]; exact hw3))
      clear hw3
      repeat' (first | (apply W.drawQ (id := 6) (l1 := [0, 1, 2, 3, 4, 5, 6, 7, 8, 9, 10, 11, 12, 13, 14, 15, 16]) (l2 := [17, 18, 19]); kernel_rfl; kernel_rfl; kernel_rfl; exact Z4) | (apply W.drawQ (id := 6) (l1 := [0, 1, 2, 3, 4, 5, 6, 7, 8, 9, 10, 11, 12, 13, 14, 15, 16, 17, 18, 19]) (l2 := []); kernel_rfl; kernel_rfl; kernel_rfl; exact Z4) | refine go1 ?_ | (apply U6; exact Z1; exact Z1; (focus (simp only [List.nil_append, List.append_nil]; first | exact hcl)); simp only [pM, pN, rR, rP]) | refine go2 (fun hh => ?_) (fun hh => ?_) | fail)
      all_goals (simp only [resV_def (X := dX cGU) Tryz.func46, Tryz.results46]; first | exact J5 | refine J6 ?_)
      rw [← HGN.out, HG.out]
    ·have hd : decide ((i : Int) < 12) = false := by simp; omega
     have hi12 : i = 12 := by omega
     have HG := Lib.hid (gauge_all (f := sat) fun j hj => HALL.out j (by omega))
     subst hi12
     clear hlt hi
     repeat' (first | (apply W.drawQ (id := 6) (l1 := [0, 1, 2, 3, 4, 5, 6, 7, 8, 9, 10, 11, 12, 13, 14, 15, 16]) (l2 := [17, 18, 19]); kernel_rfl; kernel_rfl; kernel_rfl; exact Z4) | (apply W.drawQ (id := 6) (l1 := [0, 1, 2, 3, 4, 5, 6, 7, 8, 9, 10, 11, 12, 13, 14, 15, 16, 17, 18, 19]) (l2 := []); kernel_rfl; kernel_rfl; kernel_rfl; exact Z4) | refine go1 ?_ | refine go2 (fun hh => ?_) (fun hh => ?_) | fail)
     all_goals (simp only [resV_def (X := dX cGU) Tryz.func46, Tryz.results46]; first | exact J5 | refine J6 ?_)
     rw [← HGN.out, HG.out]
   ·have hno : ∃ e : Int, askV (askOk hs st off (machB st ⟨cxl, cxh⟩ ⟨cyl, cyh⟩ ⟨wxl, wxh⟩ ⟨wyl, wyh⟩ rs) true) (boundsS (ax0 ⟨cxl, cxh⟩ ⟨wxl, wxh⟩ rs [])) (boundsS (ax1 ⟨cyl, cyh⟩ ⟨wyl, wyh⟩ rs [])) = .tuple [.agg [.nilslice, .nilslice], .int .i64 e] ∧ gaugeF (askOk hs st off (machB st ⟨cxl, cxh⟩ ⟨cyl, cyh⟩ ⟨wxl, wxh⟩ ⟨wyl, wyh⟩ rs) true) (boundsS (ax0 ⟨cxl, cxh⟩ ⟨wxl, wxh⟩ rs [])) (boundsS (ax1 ⟨cyl, cyh⟩ ⟨wyl, wyh⟩ rs [])) (goodB off hs st) = .tuple [.int .i64 0, .int .i64 e] ∧ (e != 0) = true := by
     generalize askOk hs st off (machB st ⟨cxl, cxh⟩ ⟨cyl, cyh⟩ ⟨wxl, wxh⟩ ⟨wyl, wyh⟩ rs) true = ok at *
     generalize boundsS (ax0 ⟨cxl, cxh⟩ ⟨wxl, wxh⟩ rs []) = A at *
     generalize boundsS (ax1 ⟨cyl, cyh⟩ ⟨wyl, wyh⟩ rs []) = B at *
     cases ok with
     | false => exact ⟨2, rfl, rfl, rfl⟩
     | true =>
      cases A with
      | none => exact ⟨7, rfl, rfl, rfl⟩
      | some a =>
       cases B with
       | none => exact ⟨7, rfl, rfl, rfl⟩
       | some b => exact absurd ⟨a, b, rfl, rfl, rfl⟩ hall
    obtain ⟨e, e1, e2, e3⟩ := hno
    rw [e1] at k107
    rw [e2]
    clear hc hl hr h102 H102 hall e1 e2
    refine ClR.walk (c := _) rfl Tryz.func46 rfl (by kernel_rfl) rfl isRet_fail ?_
    simp only [entryEnv, Nat.reduceAdd, emptyHp]
    repeat' (first | refine goS ?_ | (apply U6; exact Z1; exact Z1; (focus (simp only [List.nil_append, List.append_nil]; first | exact k107 _)); simp only [pM, pN, rR, rP]) | refine go2 (fun hh => ?_) (fun hh => ?_) | fail)
    all_goals (simp only [resV_def (X := dX cGU) Tryz.func46, Tryz.results46]; first | exact J5 | refine J6 ?_)
  ·cases h
 ·cases h
end Go.AM
namespace Go.AM
open Go Go.Proofs
variable [Keep]
attribute [local irreducible] W WO WO1 WD WQ WT thenQ blockQ endR isRet retK Cl ClR
attribute [local irreducible] matchS boundsS machB measB sureW goodB
def heldI (hs st : List Pt) (off : Int) (m : Bool) (p : Bool) (bl : Bool) : Int := if measB hs off && m && decide (hs.length = st.length) && bl then (if p then 0 else 7) else 2
def sp44 : List AV → Option AV
 | [.agg [ca, .int .i64 off], .agg [sa, .int .i64 cxl, .int .i64 cxh, .int .i64 cyl, .int .i64 cyh, .int .i64 wxl, .int .i64 wxh, .int .i64 wyl, .int .i64 wyh, ra], .int .i64 blank, .int .i64 from'] => match slV ptC ca, slV ptC sa, slV rdgC ra with
  | some hs, some st, some rs => some (.int .i64 (heldI hs st off (machB st ⟨cxl, cxh⟩ ⟨cyl, cyh⟩ ⟨wxl, wxh⟩ ⟨wyl, wyh⟩ rs) ((boundsS (ax0 ⟨cxl, cxh⟩ ⟨wxl, wxh⟩ rs [])).isSome && (boundsS (ax1 ⟨cyl, cyh⟩ ⟨wyl, wyh⟩ rs [])).isSome) (inB blank from' 12)))
  | _, _, _ => none
 | _ => none
theorem p44 : ∀ args v, sp44 args = some v → v.pur = true := by
 intro args v h
 unfold sp44 at h
 split at h
 ·split at h
  ·have h := Option.some.inj h
   subst h
   rfl
  ·cases h
 ·cases h
noncomputable def cGS : Itr
 | 31 => some (pureFn sp31)
 | 40 => some (pureFn sp40)
 | 41 => some (pureFn sp41)
 | 71 => some (flatFn sp71)
 | _ => none
theorem cGS_sound : Sound (dX cGS) := dX_sound (fun f g h => by
 unfold cGS at h
 split at h
 ·cases h; exact F31
 ·cases h; exact F40
 ·cases h; exact F41
 ·cases h; exact F71
 ·cases h)
set_option maxHeartbeats 4000000 in
theorem F44 : IntrFn Tryz.prog 44 (pureFn sp44) := by
  refine pure_fn (X := dX cGS) cGS_sound p44 ?_
  intro args v h
  unfold sp44 at h
  split at h
  · rename_i ca off sa cxl cxh cyl cyh wxl wxh wyl wyh ra blank fr
    split at h
    · rename_i hs st rs hc hl hr
      have h := Option.some.inj h
      subst h
      have o1 := sl_out hc
      have o2 := sl_out hl
      have o3 := sl_out hr
      have l1 := sl_len hc
      have l2 := sl_len hl
      obtain ⟨one1, t1⟩ := sl_one hc
      obtain ⟨one2, t2⟩ := sl_one hl
      obtain ⟨one3, t3⟩ := sl_one hr
      have k31 : ∀ h, Cl (dX cGS) 31 [.agg [ca, .int .i64 off]] h (.ret (.bool (measB hs off)) h none) := fun h => Cl.intr (g := pureFn sp31) rfl (by simp [pureFn, AV.pur, AV.purL, sl_pur hc, sp31, hc])
      have k71 : ∀ h, Cl (dX cGS) 71 [.agg [sa, .int .i64 cxl, .int .i64 cxh, .int .i64 cyl, .int .i64 cyh, .int .i64 wxl, .int .i64 wxh, .int .i64 wyl, .int .i64 wyh, ra]] h (.ret (.bool (machB st ⟨cxl, cxh⟩ ⟨cyl, cyh⟩ ⟨wxl, wxh⟩ ⟨wyl, wyh⟩ rs)) h none) := fun h => by
        have := K71 (X := dX cGS) rfl sa ra st rs ⟨cxl, cxh⟩ ⟨cyl, cyh⟩ ⟨wxl, wxh⟩ ⟨wyl, wyh⟩ hl hr h
        rw [machR_B] at this
        exact this
      have k41 : ∀ h, Cl (dX cGS) 41 [.int .i64 blank, .int .i64 fr] h (.ret (.bool (inB blank fr 12)) h none) := fun h => Cl.intr (g := pureFn sp41) rfl rfl
      have k40 : ∀ h, Cl (dX cGS) 40 [.agg [sa, .int .i64 cxl, .int .i64 cxh, .int .i64 cyl, .int .i64 cyh, .int .i64 wxl, .int .i64 wxh, .int .i64 wyl, .int .i64 wyh, ra]] h (.ret (.int .i64 (ableI (machB st ⟨cxl, cxh⟩ ⟨cyl, cyh⟩ ⟨wxl, wxh⟩ ⟨wyl, wyh⟩ rs) ((boundsS (ax0 ⟨cxl, cxh⟩ ⟨wxl, wxh⟩ rs [])).isSome && (boundsS (ax1 ⟨cyl, cyh⟩ ⟨wyl, wyh⟩ rs [])).isSome))) h none) := fun h => Cl.intr (g := pureFn sp40) rfl (by simp [pureFn, AV.pur, AV.purL, sl_pur hl, sl_pur hr, sp40, hl, hr])
      have HH := Lib.hid (show ∀ m p bl, heldI hs st off m p bl = (if measB hs off && m && decide (hs.length = st.length) && bl then (if p then 0 else 7) else 2) from fun _ _ _ => rfl)
      generalize ((boundsS (ax0 ⟨cxl, cxh⟩ ⟨wxl, wxh⟩ rs [])).isSome && (boundsS (ax1 ⟨cyl, cyh⟩ ⟨wyl, wyh⟩ rs [])).isSome) = pb at *
      generalize machB st ⟨cxl, cxh⟩ ⟨cyl, cyh⟩ ⟨wxl, wxh⟩ ⟨wyl, wyh⟩ rs = b2 at *
      generalize inB blank fr 12 = b4 at *
      generalize hres : heldI hs st off b2 pb b4 = res
      have hr2 := hres.symm.trans (HH.out b2 pb b4)
      generalize measB hs off = b1 at *
      have HR := Lib.hid hr2
      have hcase : (b1 = false) ∨ (b1 = true ∧ b2 = false) ∨ (b1 = true ∧ b2 = true ∧ ((hs.length : Int) != (st.length : Int)) = true) ∨ (b1 = true ∧ b2 = true ∧ ((hs.length : Int) != (st.length : Int)) = false ∧ b4 = false) ∨ (b1 = true ∧ b2 = true ∧ ((hs.length : Int) != (st.length : Int)) = false ∧ b4 = true) := by
        cases b1 <;> cases b2 <;> cases b4 <;> cases ((hs.length : Int) != (st.length : Int)) <;> simp
      clear hc hl hr hres hr2 HH
      refine ClR.walk (c := _) rfl Tryz.func44 rfl (by kernel_rfl) rfl isRet_fail ?_
      simp only [entryEnv, Nat.reduceAdd, emptyHp]
      rcases hcase with q1 | ⟨q1, q2⟩ | ⟨q1, q2, q3⟩ | ⟨q1, q2, q3, q4⟩ | ⟨q1, q2, q3, q4⟩
      case inr.inr.inr.inr =>
        have hlen : decide (hs.length = st.length) = true := by
          have := q3
          simp at this ⊢
          omega
        have hrs : res = if pb then 0 else 7 := by rw [HR.out, q1, q2, hlen, q4]; rfl
        have HRS := Lib.hid hrs
        subst q1 q2 q4
        simp only [ableI, if_true] at k40
        clear HR hlen hrs
        generalize (if pb = true then (0 : Int) else 7) = w at *
        repeat' (first | refine goS ?_ | (apply U6; exact Z1; exact Z1; (focus (simp only [List.nil_append, List.append_nil]; first | exact k31 _ | exact k71 _ | exact k41 _ | exact k40 _)); simp only [pM, pN, rR, rP]) | refine go2 (fun hh => ?_) (fun hh => ?_) | fail)
        all_goals (simp only [resV_def (X := dX cGS) Tryz.func44, Tryz.results44]; first | exact J5 | refine J6 ?_)
        rw [HRS.out]
      all_goals (
        have hrs : res = 2 := by
          rw [HR.out]
          first
            | (rw [q1]; rfl)
            | (rw [q1, q2]; rfl)
            | (have hlen : decide (hs.length = st.length) = false := by
                have := q3
                simp at this ⊢
                omega
               rw [q1, q2, hlen]; rfl)
            | (rw [q4]; simp)
        rw [hrs]
        clear HR hrs k40
        subst q1
        repeat' (first | refine goS ?_ | (apply U6; exact Z1; exact Z1; (focus (simp only [List.nil_append, List.append_nil]; first | exact k31 _ | exact k71 _ | exact k41 _)); simp only [pM, pN, rR, rP]) | refine go2 (fun hh => ?_) (fun hh => ?_) | fail)
        all_goals (simp only [resV_def (X := dX cGS) Tryz.func44, Tryz.results44]; first | exact J5 | refine J6 ?_))
    · cases h
  · cases h
end Go.AM
namespace Go.AM
open Go Go.Proofs
variable [Keep]
attribute [local irreducible] W WO WO1 WD WQ WT thenQ blockQ endR isRet retK Cl ClR
attribute [local irreducible] matchS boundsS machB measB sureW goodB askOk heldI
noncomputable def c7 : Itr
 | 38 => some (pureFn sp38)
 | 43 => some (pureFn sp43)
 | 44 => some (pureFn sp44)
 | 45 => some (pureFn sp45)
 | f => c25 cK f
theorem held_ask (hs st : List Pt) (off : Int) (m p bl : Bool) : heldI hs st off m p bl = if askOk hs st off m bl then (if p then 0 else 7) else 2 := by
 unfold heldI askOk
 have : decide (hs.length = st.length) = decide (st.length = hs.length) := by
  rw [Bool.eq_iff_iff]
  simp
  omega
 rw [this]
end Go.AM
namespace Go.AM
open Go Go.Proofs
variable [Keep]
attribute [local irreducible] W WO WO1 WD WQ WT thenQ blockQ endR isRet retK Cl ClR
attribute [local irreducible] matchS boundsS machB measB sureW goodB askOk gaugeN sureAt fitsM truthB upAny rowAny
section
variable {X : Ctx} {ops : Array Oper} {K P : AV → Fr → Prop} {F : Fr} {d : Option Tmp} {op : Op} {T : TypeId} {p : String} {af : Array Edge} {j : Nat} {want : Bool} {o : Oper} {t : Tmp}
end
theorem up_in {G : Pt → Bool} {x y : Sp} {p q : Int} (h1 : x.lo ≤ p) (h2 : p ≤ x.hi) (h3 : y.lo ≤ q) (h4 : q ≤ y.hi) (h : G ⟨p, q⟩ = true) : upAny G x y (ny x) = true := by
 unfold upAny rowAny
 rw [List.any_eq_true]
 refine ⟨(p - x.lo).toNat, ?_, ?_⟩
 ·rw [List.mem_range]
  unfold ny
  omega
 ·rw [List.any_eq_true]
  refine ⟨(q - y.lo).toNat, ?_, ?_⟩
  ·rw [List.mem_range]
   unfold ny
   omega
  ·have e1 : x.lo + ((p - x.lo).toNat : Int) = p := by omega
   have e2 : y.lo + ((q - y.lo).toNat : Int) = q := by omega
   rw [e1, e2]
   exact h
theorem sure_three {G : Pt → Bool} {x y : Sp} {p q : Int} (h1 : x.lo ≤ p) (h2 : p ≤ x.hi) (h3 : y.lo ≤ q) (h4 : q ≤ y.hi) (h : sureW G x y = 3) : G ⟨p, q⟩ = true := by
 cases hg : G ⟨p, q⟩ with
 | true => rfl
 | false =>
  have := up_in (G := fun p => !G p) h1 h2 h3 h4 (by simp [hg])
  rw [sure_def, if_pos this] at h
  split at h <;> cases h
theorem gauge_is (f : Nat → Int) : gaugeN f ≤ 12 ∧ (∀ k, 1 ≤ k → k ≤ gaugeN f → f k = 3) ∧ (gaugeN f < 12 → f (gaugeN f + 1) ≠ 3) := by
 by_cases h : ∀ j, j < 12 → f (j + 1) = 3
 ·rw [gauge_all h]
  refine ⟨Nat.le_refl _, fun k h1 h2 => ?_, fun e => by omega⟩
  have := h (k - 1) (by omega)
  rw [show k - 1 + 1 = k by omega] at this
  exact this
 ·
  have hex : ∃ i, i < 12 ∧ f (i + 1) ≠ 3 ∧ ∀ j, j < i → f (j + 1) = 3 := by
   have key : ∀ m, (∀ j, j < m → f (j + 1) = 3) ∨ ∃ i, i < m ∧ f (i + 1) ≠ 3 ∧ ∀ j, j < i → f (j + 1) = 3 := by
    intro m
    induction m with
    | zero => exact .inl fun j hj => by omega
    | succ m ih =>
     rcases ih with q | ⟨i, q1, q2, q3⟩
     ·by_cases hm : f (m + 1) = 3
      ·refine .inl fun j hj => ?_
       rcases Nat.lt_or_ge j m with c | c
       ·exact q j c
       ·obtain rfl : j = m := by omega
        exact hm
      ·exact .inr ⟨m, by omega, hm, q⟩
     ·exact .inr ⟨i, by omega, q2, q3⟩
   rcases key 12 with q | q
   ·exact absurd q h
   ·exact q
  obtain ⟨i, h1, h2, h3⟩ := hex
  rw [gauge_at h3 h1 h2]
  refine ⟨by omega, fun k hk1 hk2 => ?_, fun _ => h2⟩
  have := h3 (k - 1) (by omega)
  rw [show k - 1 + 1 = k by omega] at this
  exact this
end Go.AM
namespace Go.AM
open Go
variable [Keep]
attribute [local irreducible] matchS boundsS machB measB askOk rsAll rfAll bestP bestTo sureW gaugeN
theorem max_max (a b : Int) : maxV a b = max a b := by unfold maxV; split <;> omega
theorem min_min (a b : Int) : minV a b = min a b := by unfold minV; split <;> omega
structure Spd (l : List Sp) : Prop where
 len : l.length = 13
 ne : ∀ j, j ≤ 12 → (l.getD j ⟨0, 0⟩).lo ≤ (l.getD j ⟨0, 0⟩).hi
 small : ∀ j, j ≤ 12 → -48 ≤ (l.getD j ⟨0, 0⟩).lo ∧ (l.getD j ⟨0, 0⟩).hi ≤ 48
section
variable {off : Int} {hs l : List Pt} {a b : List Sp} {t n : Nat} {o : List Nat}
end
section
variable {off : Int} {bx : Bx} {g p s : Pt}
end
section
variable {off : Int} {t : Nat} {hs st : List Pt} {o : List Nat} {b : Bx}
end
section
variable {off : Int} {hs st l : List Pt} {a b : List Sp} {t n : Nat} {o : List Nat}
end
end Go.AM
namespace Go.AM
open Go
variable [Keep]
def heldB (n : Nat) (y : Bx) : Held := ⟨n, y.x, y.y⟩
end Go.AM
namespace Go.AM
open Go
variable [Keep]
attribute [local irreducible] boundsS
def posH (cx cy wx wy : Sp) (rs : List Rdg) (ms : List Held) : Bool := (boundsS (ax0 cx wx rs ms)).isSome && (boundsS (ax1 cy wy rs ms)).isSome
theorem posH_one (cx cy wx wy : Sp) (rs : List Rdg) (n : Nat) (y : Bx) : posH cx cy wx wy rs [heldB n y] = canB cx cy wx wy rs n y := rfl
section
variable {ss : List Pt} {cx cy wx wy : Sp} {rs : List Rdg} (h : machB ss cx cy wx wy rs = true)
include h
theorem lims_in {ms : List Held} (hm : ∀ m ∈ ms, HeldOk m) : (∀ m ∈ (ax0 cx wx rs ms).limits, 0 ≤ m.b ∧ m.b ≤ 12) ∧ (∀ m ∈ (ax1 cy wy rs ms).limits, 0 ≤ m.b ∧ m.b ≤ 12) := by
 have hr := mach_rdg h
 constructor <;>
 ·intro m h'
  rcases List.mem_append.1 h' with q | q
  ·obtain ⟨p, hp, rfl⟩ := List.mem_map.1 q
   have := rdg_of (hr p hp)
   simp only
   omega
  ·obtain ⟨k, hk, rfl⟩ := List.mem_map.1 q
   exact (hm k hk).b
variable {xs ys : List Int} (ht : truthB xs ys = true) (hf : fitsM cx cy wx wy rs xs ys = true)
include ht hf
end
end Go.AM
namespace Go.AM
open Go
variable [Keep]
attribute [local irreducible] matchS boundsS machB measB sureW gaugeN boxL
def subS (s' s : Sp) : Prop := s.lo ≤ s'.lo ∧ s'.hi ≤ s.hi
theorem fits_mono {c w c' w' : Sp} {L L' : List Lim} {l : List Int} (h : fitsA ⟨c', w', L'⟩ l = true) (hc : subS c' c) (hw : subS w' w) (hs : ∀ m ∈ L, m ∈ L') : fitsA ⟨c, w, L⟩ l = true := by
 simp only [fitsA, Bool.and_eq_true, List.all_eq_true, inB, stepB, decide_eq_true_eq] at h ⊢
 obtain ⟨h1, h2, h3⟩ := h
 unfold subS at hc hw
 refine ⟨⟨by omega, by omega⟩, fun k hk => ?_, fun m hm => h3 m (hs m hm)⟩
 have := h2 k hk
 exact ⟨by omega, by omega⟩
theorem bounds_mono {c w c' w' : Sp} {L L' : List Lim} (g : Good c w L) (g' : Good c' w' L') (hL : ∀ m ∈ L', 0 ≤ m.b ∧ m.b ≤ 12) (hc : subS c' c) (hw : subS w' w) (hs : ∀ m ∈ L, m ∈ L') {t' : List Sp} (ht' : boundsS ⟨c', w', L'⟩ = some t') :
  ∃ t, boundsS ⟨c, w, L⟩ = some t ∧ ∀ j : Nat, j ≤ 12 → subS (t'.getD j ⟨0, 0⟩) (t.getD j ⟨0, 0⟩) := by
 have b := bnd_of g' ht'
 have hlo := ends_fit g' hL b Sp.lo (.inl fun _ => rfl)
 have hhi := ends_fit g' hL b Sp.hi (.inr fun _ => rfl)
 obtain ⟨t, e1, _, e3⟩ := fits_within g (fits_mono hlo hc hw hs) (ends_ok b Sp.lo (.inl fun _ => rfl)).2
 obtain ⟨t2, e4, _, e6⟩ := fits_within g (fits_mono hhi hc hw hs) (ends_ok b Sp.hi (.inr fun _ => rfl)).2
 rw [e1] at e4
 have e4 := Option.some.inj e4
 subst e4
 refine ⟨t, e1, fun j hj => ?_⟩
 have a1 := e3 j hj
 have a2 := e6 j hj
 rw [ends_get Sp.lo t' (by omega)] at a1
 rw [ends_get Sp.hi t' (by omega)] at a2
 unfold inS at a1 a2
 exact ⟨a1.1, a2.2⟩
section
variable {st : List Pt} {cx cy wx wy cx' cy' wx' wy' : Sp} {rs rs' : List Rdg} (h : machB st cx cy wx wy rs = true) (h' : machB st cx' cy' wx' wy' rs' = true) (s : (subS cx' cx ∧ subS cy' cy) ∧ subS wx' wx ∧ subS wy' wy) (hr : ∀ r ∈ rs, r ∈ rs')
include h h' s hr
theorem held_mono {ms : List Held} (hm : ∀ m ∈ ms, HeldOk m) :
  (∀ t', boundsS (ax0 cx' wx' rs' ms) = some t' → ∃ t, boundsS (ax0 cx wx rs ms) = some t ∧ ∀ j : Nat, j ≤ 12 → subS (t'.getD j ⟨0, 0⟩) (t.getD j ⟨0, 0⟩)) ∧
  (∀ t', boundsS (ax1 cy' wy' rs' ms) = some t' → ∃ t, boundsS (ax1 cy wy rs ms) = some t ∧ ∀ j : Nat, j ≤ 12 → subS (t'.getD j ⟨0, 0⟩) (t.getD j ⟨0, 0⟩)) := by
 obtain ⟨l1, l2⟩ := lims_in h' hm
 refine ⟨fun t' ht' => bounds_mono (L := (ax0 cx wx rs ms).limits) (L' := (ax0 cx' wx' rs' ms).limits) (good_xh h hm) (good_xh h' hm) l1 s.1.1 s.2.1 (fun m q => ?_) ht', fun t' ht' => bounds_mono (L := (ax1 cy wy rs ms).limits) (L' := (ax1 cy' wy' rs' ms).limits) (good_yh h hm) (good_yh h' hm) l2 s.1.2 s.2.2 (fun m q => ?_) ht'⟩ <;>
 ·rcases List.mem_append.1 q with q | q
  ·obtain ⟨k, hk, rfl⟩ := List.mem_map.1 q
   exact List.mem_append.2 (.inl (List.mem_map.2 ⟨k, hr k hk, rfl⟩))
  ·exact List.mem_append.2 (.inr q)
theorem can_mono {n : Nat} {y : Bx} (hn : n ≤ 12) (hy : BdB y) (q : canB cx' cy' wx' wy' rs' n y = true) : canB cx cy wx wy rs n y = true := by
 rw [← posH_one] at q ⊢
 have hm : ∀ m ∈ [heldB n y], HeldOk m := fun m q => by
  simp only [List.mem_singleton] at q
  subst q
  exact held_box hn hy
 obtain ⟨k1, k2⟩ := held_mono h h' s hr hm
 unfold posH at q ⊢
 rw [Bool.and_eq_true] at q ⊢
 obtain ⟨a', ha'⟩ := Option.isSome_iff_exists.1 q.1
 obtain ⟨b', hb'⟩ := Option.isSome_iff_exists.1 q.2
 obtain ⟨a, ha, _⟩ := k1 a' ha'
 obtain ⟨b, hb, _⟩ := k2 b' hb'
 exact ⟨by rw [ha]; rfl, by rw [hb]; rfl⟩
end
theorem sure_yes {G : Pt → Bool} {x y : Sp} (h : ∀ p q, x.lo ≤ p → p ≤ x.hi → y.lo ≤ q → q ≤ y.hi → G ⟨p, q⟩ = true) : sureW G x y = 3 := by
 rw [sure_def]
 have hno : upAny (fun p => !G p) x y (ny x) = false := by
  rw [Bool.eq_false_iff]
  intro q
  unfold upAny rowAny at q
  rw [List.any_eq_true] at q
  obtain ⟨a, hx, q⟩ := q
  rw [List.any_eq_true] at q
  obtain ⟨b, hy, q⟩ := q
  rw [List.mem_range] at hx hy
  unfold ny at hx hy
  have := h (x.lo + a) (y.lo + b) (by omega) (by omega) (by omega) (by omega)
  simp [this] at q
 rw [if_neg (by rw [hno]; simp)]
theorem good_more {off off' : Int} {hs st : List Pt} {p : Pt} (h0 : 0 ≤ off) (hle : off ≤ off') (h6 : off' ≤ 6) (h : goodB off hs st p = true) : goodB off' hs st p = true := by
 unfold goodB at h ⊢
 rw [match_iff] at h ⊢
 obtain ⟨t, o, ht, ho, ha⟩ := h
 refine ⟨t, o, ht, ho, ?_⟩
 unfold accB at ha ⊢
 rw [List.all_eq_true] at ha ⊢
 intro i hi
 have := ha i hi
 have e1 : w64 (-off) = -off := wrap_small (by omega) (by omega)
 have e2 : w64 (-off') = -off' := wrap_small (by omega) (by omega)
 simp only [offB, okPt, inB, e1, e2, Bool.and_eq_true, decide_eq_true_eq] at this ⊢
 omega
theorem gauge_more {f f' : Nat → Int} (h : ∀ k, 1 ≤ k → k ≤ 12 → f k = 3 → f' k = 3) : gaugeN f ≤ gaugeN f' := by
 obtain ⟨a1, a2, _⟩ := gauge_is f
 obtain ⟨_, _, b3⟩ := gauge_is f'
 rcases Nat.lt_or_ge (gaugeN f') (gaugeN f) with q | q
 ·exact absurd (h _ (by omega) (by omega) (a2 (gaugeN f' + 1) (by omega) (by omega))) (b3 (by omega))
 ·exact q
theorem sure_more {off off' : Int} {hs st : List Pt} {a b a' b' : List Sp} (h0 : 0 ≤ off) (hle : off ≤ off') (h6 : off' ≤ 6) {k : Nat} (hx : subS (a'.getD k ⟨0, 0⟩) (a.getD k ⟨0, 0⟩)) (hy : subS (b'.getD k ⟨0, 0⟩) (b.getD k ⟨0, 0⟩)) (h : sureAt (goodB off hs st) a b k = 3) : sureAt (goodB off' hs st) a' b' k = 3 := by
 unfold sureAt at h ⊢
 unfold subS at hx hy
 exact sure_yes fun p q h1 h2 h3 h4 => good_more h0 hle h6 (sure_three (by omega) (by omega) (by omega) (by omega) h)
theorem could_in {p : Nat → Bool} {n : Nat} (h : n ∈ couldN p 12) : 1 ≤ n ∧ n ≤ 12 ∧ p n = true := by
 unfold couldN at h
 obtain ⟨i, hi, rfl⟩ := List.mem_map.1 h
 obtain ⟨h1, h2⟩ := List.mem_filter.1 hi
 have := List.mem_range.1 h1
 exact ⟨by omega, by omega, h2⟩
def closS (s : Sp) (up down : Int) : Sp := ⟨minV s.hi (w64 (s.lo + up)), maxV (minV s.hi (w64 (s.lo + up))) (w64 (s.hi - down))⟩
theorem clos_sub {s : Sp} {up down : Int} (h : -100 ≤ s.lo ∧ s.lo ≤ s.hi ∧ s.hi ≤ 100) (h1 : 0 ≤ up) (h2 : up ≤ 6) (h3 : 0 ≤ down) (h4 : down ≤ 6) : subS (closS s up down) s := by
 have e1 : w64 (s.lo + up) = s.lo + up := wrap_small (by omega) (by omega)
 have e2 : w64 (s.hi - down) = s.hi - down := wrap_small (by omega) (by omega)
 unfold closS subS
 rw [e1, e2]
 simp only [max_max, min_min]
 omega
end Go.AM
namespace Go.AM
open Go Go.Proofs
variable [Keep]
attribute [local irreducible] W WO WO1 WD WQ WT thenQ blockQ endR isRet retK Cl ClR
attribute [local irreducible] isNew roundQ RdR clR boundsS machB boxL suitB
structure MA where
 sa : AV
 ra : AV
 cx : Sp
 cy : Sp
 wx : Sp
 wy : Sp
 ps : sa.pur = true ∧ ra.pur = true
def MA.stops (m : MA) : List Pt := (slV ptC m.sa).getD []
def MA.rdgs (m : MA) : List Rdg := (slV rdgC m.ra).getD []
def MA.ok (m : MA) : Bool := (slV ptC m.sa).isSome && (slV rdgC m.ra).isSome
theorem MA.ok_is {m : MA} (h : m.ok = true) : slV ptC m.sa = some m.stops ∧ slV rdgC m.ra = some m.rdgs := by
 unfold MA.ok at h
 simp only [Bool.and_eq_true, Option.isSome_iff_exists] at h
 obtain ⟨⟨a, ha⟩, ⟨b, hb⟩⟩ := h
 simp [MA.stops, MA.rdgs, ha, hb]
def MA.mach (m : MA) : Bool := machB m.stops m.cx m.cy m.wx m.wy m.rdgs
def MA.suit (m : MA) (hs : List Pt) (err : Int) : Bool := suitB m.mach m.stops hs err
def MA.poss (m : MA) : Bool := possB m.cx m.cy m.wx m.wy m.rdgs
def MA.could (m : MA) (hs : List Pt) (err : Int) : List Nat := couldN (fun n => (boxL err m.stops hs).any (canB m.cx m.cy m.wx m.wy m.rdgs n)) 12
theorem MA.cells {m : MA} (h : m.ok = true) : m.sa.cells = [m.sa] ∧ m.ra.cells = [m.ra] := by
 obtain ⟨h1, h2⟩ := MA.ok_is h
 exact ⟨(slV_is h1).1.cells, (slV_is h2).1.cells⟩
end Go.AM
namespace Go.AM
open Go Go.Proofs
variable [Keep]
attribute [local irreducible] W WO WO1 WD WQ WT thenQ blockQ endR isRet retK Cl ClR
attribute [local irreducible] roundQ RdR clR boundsS machB boxL suitB MA.could MA.poss MA.suit MA.mach
def sp54 : List AV → Option AV
 | [.agg [ha, .int .i64 _]] => (slLen ha).map fun (n : Nat) => AV.bool (decide ((n : Int) ≤ 6))
 | _ => none
theorem F54 : IntrFn Tryz.prog 54 (pureFn sp54) := by
 refine pure_fn (X := dX cP2) cP2_sound (fun a v h => by
  unfold sp54 at h
  split at h
  ·simp only [Option.map_eq_some_iff] at h; obtain ⟨n, _, rfl⟩ := h; rfl
  ·cases h) ?_
 intro args v h
 unfold sp54 at h
 split at h
 ·simp only [Option.map_eq_some_iff] at h
  obtain ⟨n, hn, rfl⟩ := h
  obtain ⟨ln, ou, tu⟩ := slLen_is hn
  simp only [isTuple] at tu
  clear hn
  refine ClR.walk (c := _) rfl Tryz.func54 rfl (by kernel_rfl) rfl isRet_fail ?_
  simp only [entryEnv, Nat.reduceAdd]
  repeat' (first | refine goS ?_ | refine go2 (fun hh => ?_) (fun hh => ?_) | fail)
  all_goals (simp only [resV_def (X := dX cP2) Tryz.func54, Tryz.results54]; first | exact J5 | refine J6 ?_)
 ·cases h
theorem K54 {X : Ctx} (hX : X.intr 54 = some (pureFn sp54)) (ha : AV) (es : List AV) (err : Int) (hl : isSl ha es) (hp : ∀ x ∈ es, x.pur = true) (h : Heap) : Cl X 54 [.agg [ha, .int .i64 err]] h (.ret (.bool (decide ((es.length : Int) ≤ 6))) h none) :=
 Cl.intr hX (by simp [pureFn, AV.pur, AV.purL, hl.pur hp, sp54, slLen_mk hl])
def MA.good (m : MA) : Prop := ∃ (st : List Pt) (rs : List Rdg), isSl m.sa (st.map ptC.enc) ∧ isSl m.ra (rs.map rdgC.enc)
end Go.AM
namespace Go.AM
open Go Go.Proofs
variable [Keep]
attribute [local irreducible] W WO WO1 WD WQ WT thenQ blockQ endR isRet retK Cl ClR
attribute [local irreducible] roundQ RdR clR boundsS machB boxL suitB fitsM truthB orderB prvL
def hasB (l : List Int) (n : Int) : Bool := (l.take 20).any fun x => x == n
def sp75 : List AV → Option AV
 | [la, .int .i64 n] => (slV intC la).map fun l => .bool (hasB l n)
 | _ => none
theorem p75 : ∀ args v, sp75 args = some v → v.flat = true := by
 intro args v h
 unfold sp75 at h
 split at h
 ·simp only [Option.map_eq_some_iff] at h; obtain ⟨l, _, rfl⟩ := h; rfl
 ·cases h
set_option maxHeartbeats 1000000 in
theorem F75 : IntrFn Tryz.prog 75 (flatFn sp75) := by
 refine flat_fn (X := dX i0) i0_sound p75 ?_
 intro args v h
 unfold sp75 at h
 split at h
 ·rename_i la n
  simp only [Option.map_eq_some_iff] at h
  obtain ⟨l, hl, rfl⟩ := h
  have o1 := sl_out hl
  have ln := sl_len hl
  have hmax := sl_max hl
  have HL := Lib.hid hl
  have HB := Lib.hid (show hasB l n = (l.take 20).any (fun x => x == n) from rfl)
  generalize hasB l n = res at *
  clear hl
  refine ClR.walk (c := _) rfl Tryz.func75 rfl (by kernel_rfl) rfl isRet_fail ?_
  simp only [entryEnv, Nat.reduceAdd, emptyHp]
  repeat' (first | refine goS ?_ | refine go2 (fun hh => ?_) (fun hh => ?_) | fail)
  refine W.loopN l.length (fun i F => ∃ e, F = Fr.mk 75 false e .nil ⟨0, .nil⟩ [] none ∧ (l.take i).any (fun x => x == n) = false ∧ i ≤ 20 ∧ e.get 0 = some la ∧ e.get 1 = some (.int .i64 n) ∧ e.get 5 = some (.int .i64 ↑i) ∧ i ≤ l.length) ?_ ?_
  ·refine ⟨_, rfl, ?_, ?_, ?_, ?_, ?_, ?_⟩ <;> first | exact Z2 | simp [go_sem, *]
  rintro i F ⟨e, rfl, hall, hi20, h0, h1, h5, hi⟩
  have HA := Lib.hid hall
  clear hall
  by_cases hil : i < l.length
  ·have hd : decide ((i : Int) < (l.length : Int)) = true := by simpa using hil
   by_cases h20 : i < 20
   ·have hd2 : decide ((i : Int) < 20) = true := by simp; omega
    obtain ⟨x, hx⟩ := get_some hil
    have hix := fun H => isSl.idx (P := Tryz.prog) (hp := H) (slV_is HL.out).1 (t := 39) (e := 3) (ag := false) (m := 1) (k := i) (x := .int .i64 x) Tryz.underlying39 ty_lay3 (by simp [hx, intC]) rfl
    simp only [AV.cells] at hix
    have hw := wrap_succ (m := l.length) hil hmax
    have hnx : (l.take (i + 1)).any (fun x => x == n) = (x == n) := by rw [take_next hx, List.any_append, HA.out]; simp
    have HN := Lib.hid hnx
    have HX := Lib.hid hx
    clear hx hnx
    cases hq : (x == n) with
    | true =>
     have hres : res = true := by
      rw [HB.out, List.any_eq_true]
      refine ⟨x, ?_, hq⟩
      rw [List.mem_take_iff_getElem]
      have := HX.out
      obtain ⟨hx1, hx2⟩ := List.getElem?_eq_some_iff.1 this
      exact ⟨i, by omega, hx2⟩
     subst hres
     clear hil h20
     repeat' (first | refine goS ?_ | refine go2 (fun hh => ?_) (fun hh => ?_) | fail)
     all_goals (simp only [resV_def (X := dX i0) Tryz.func75, Tryz.results75]; first | exact J5 | refine J6 ?_)
    | false =>
     rw [hq] at HN
     repeat' (first | refine goS ?_ | refine go2 (fun hh => ?_) (fun hh => ?_) | fail)
     refine ⟨hil, _, rfl, HN.out, by omega, ?_, ?_, ?_, by omega⟩
     all_goals exact Z2
   ·have hd2 : decide ((i : Int) < 20) = false := by simp; omega
    have hres : res = false := by rw [HB.out, show 20 = i by omega]; exact HA.out
    subst hres
    clear hil h20
    repeat' (first | refine goS ?_ | refine go2 (fun hh => ?_) (fun hh => ?_) | fail)
    all_goals (simp only [resV_def (X := dX i0) Tryz.func75, Tryz.results75]; first | exact J5 | refine J6 ?_)
  ·have hd : decide ((i : Int) < (l.length : Int)) = false := by simpa using hil
   have hres : res = false := by
    rw [HB.out, List.take_of_length_le (by omega)]
    have := HA.out
    rw [show i = l.length by omega, List.take_length] at this
    exact this
   subst hres
   clear hil
   repeat' (first | refine goS ?_ | refine go2 (fun hh => ?_) (fun hh => ?_) | fail)
   all_goals (simp only [resV_def (X := dX i0) Tryz.func75, Tryz.results75]; first | exact J5 | refine J6 ?_)
 ·cases h
theorem K75 {X : Ctx} (hX : X.intr 75 = some (flatFn sp75)) (la : AV) (l : List Int) (n : Int) (h : Heap) (hl : SeeV h intC la l) : Cl X 75 [la, .int .i64 n] h (.ret (.bool (hasB l n)) h none) := by
 obtain ⟨la', v1, s1⟩ := hl
 have e : viewV h (.int .i64 n) = some (.int .i64 n) := rfl
 exact Cl.intr hX (by simp [flatFn, viewVs, v1, e, sp75, s1])
theorem SeeV.blt {α : Type} {c : Cd α} {a : AV} {sz : Nat} {l : List α} {h : Heap} (b : Blt h a sz (l.map c.enc)) (hl : l.length ≤ maxL) : SeeV h c a l :=
 ⟨_, b.view (enc_pur c l), slV_slN hl⟩
theorem SeeV.nats {a : AV} {l : List Nat} {h : Heap} (b : Blt h a 1 (natsV l)) (hl : l.length ≤ maxL) : SeeV h intC a (l.map fun k : Nat => (k : Int)) := by
 have h1 : natsV l = (l.map fun k : Nat => (k : Int)).map intC.enc := by simp [natsV, intC]
 rw [h1] at b
 exact SeeV.blt b (by simpa using hl)
end Go.AM
namespace Go.AM
open Go Go.Proofs
variable [Keep]
attribute [local irreducible] W WO WO1 WD WQ WT thenQ blockQ endR isRet retK Cl ClR
attribute [local irreducible] roundQ RdR clR boundsS machB boxL suitB fitsM truthB orderB prvL butB possB
theorem could_mem {p : Nat → Bool} {n : Nat} (h1 : 1 ≤ n) (hn : n ≤ 12) (h : p n = true) : n ∈ couldN p 12 := by
 unfold couldN
 rw [List.mem_map]
 refine ⟨n - 1, List.mem_filter.2 ⟨List.mem_range.2 (by omega), ?_⟩, by omega⟩
 rw [show n - 1 + 1 = n by omega]
 exact h
theorem has_mem {l : List Nat} {n : Nat} (hl : l.length ≤ 20) (h : n ∈ l) : hasB (l.map fun k : Nat => (k : Int)) n = true := by
 unfold hasB
 rw [List.take_of_length_le (by simpa using hl), List.any_eq_true]
 exact ⟨n, List.mem_map.2 ⟨n, h, rfl⟩, by simp⟩
end Go.AM
namespace Go.AM
open Go Go.Proofs
variable [Keep]
attribute [local irreducible] W WO WO1 WD WQ WT thenQ blockQ endR isRet retK Cl ClR
attribute [local irreducible] matchS boundsS machB measB sureW gaugeN boxL heldI askOk
def sp62 : List AV → Option AV
 | [.agg [.int .i64 lo, .int .i64 hi], .int .i64 up, .int .i64 down] => some (.agg [.int .i64 (closS ⟨lo, hi⟩ up down).lo, .int .i64 (closS ⟨lo, hi⟩ up down).hi])
 | _ => none
noncomputable def cIV : Itr
 | 92 => some (pureFn sp92)
 | _ => none
theorem cIV_sound : Sound (dX cIV) := dX_sound (fun f g h => by
 unfold cIV at h
 split at h
 ·cases h; exact F92
 ·cases h)
set_option maxHeartbeats 1000000 in
theorem F62 : IntrFn Tryz.prog 62 (pureFn sp62) := by
 refine pure_fn (X := dX cIV) cIV_sound (fun a v h => by unfold sp62 at h; split at h <;> cases h; rfl) ?_
 intro args v h
 unfold sp62 at h
 split at h
 ·rename_i lo hi up down
  have h := Option.some.inj h
  subst h
  have w1 : IntKind.i64.wrap (lo + up) = w64 (lo + up) := rfl
  have w2 : IntKind.i64.wrap (hi - down) = w64 (hi - down) := rfl
  simp only [closS]
  generalize w64 (lo + up) = a1 at *
  generalize w64 (hi - down) = a2 at *
  have k92 := fun h => K92 (X := dX cIV) rfl (minV hi a1) (maxV (minV hi a1) a2) h
  refine ClR.walk (c := _) rfl Tryz.func62 rfl (by kernel_rfl) rfl isRet_fail ?_
  simp only [entryEnv, Nat.reduceAdd, emptyHp]
  repeat' (first | refine goS ?_ | (apply U6; exact Z1; exact Z1; (focus (simp only [List.nil_append, List.append_nil]; first | exact k92 _)); simp only [pM, pN, rR, rP]) | refine go2 (fun hh => ?_) (fun hh => ?_) | fail)
  all_goals (simp only [resV_def (X := dX cIV) Tryz.func62, Tryz.results62]; first | exact J5 | refine J6 ?_)
  all_goals rfl
 ·cases h
theorem K62 {X : Ctx} (hX : X.intr 62 = some (pureFn sp62)) (s : Sp) (up down : Int) (h : Heap) : Cl X 62 [.agg [.int .i64 s.lo, .int .i64 s.hi], .int .i64 up, .int .i64 down] h (.ret (.agg [.int .i64 (closS s up down).lo, .int .i64 (closS s up down).hi]) h none) := Cl.intr hX rfl
def sp64 : List AV → Option AV
 | [la, ra] => match slV intC la, slV intC ra with
  | some l, some r => some (.bool (r.all (hasB l)))
  | _, _ => none
 | _ => none
theorem p64 : ∀ args v, sp64 args = some v → v.flat = true := by
 intro args v h
 unfold sp64 at h
 split at h
 ·split at h
  ·cases h; rfl
  ·cases h
 ·cases h
noncomputable def cIV2 : Itr
 | 75 => some (flatFn sp75)
 | _ => none
theorem cIV2_sound : Sound (dX cIV2) := dX_sound (fun f g h => by
 unfold cIV2 at h
 split at h
 ·cases h; exact F75
 ·cases h)
set_option maxHeartbeats 1000000 in
theorem F64 : IntrFn Tryz.prog 64 (flatFn sp64) := by
 refine flat_fn (X := dX cIV2) cIV2_sound p64 ?_
 intro args v h
 unfold sp64 at h
 split at h
 ·rename_i la ra
  split at h
  ·rename_i l r hl hr
   have h := Option.some.inj h
   subst h
   have o1 := sl_out hl
   have o2 := sl_out hr
   have ln2 := sl_len hr
   have hmax := sl_max hr
   obtain ⟨n1, t1⟩ := sl_one hl
   obtain ⟨n2, t2⟩ := sl_one hr
   have K := fun n h => K75 (X := dX cIV2) rfl la l n h (.of hl h)
   have HK := Lib.hid K
   have HR := Lib.hid hr
   generalize hres : r.all (hasB l) = res
   have HRES := Lib.hid hres
   clear hl hr K hres
   refine ClR.walk (c := _) rfl Tryz.func64 rfl (by kernel_rfl) rfl isRet_fail ?_
   simp only [entryEnv, Nat.reduceAdd, emptyHp]
   repeat' (first | refine goS ?_ | refine go2 (fun hh => ?_) (fun hh => ?_) | fail)
   refine W.loopN r.length (fun k F => ∃ e, F = Fr.mk 64 false e .nil ⟨0, .nil⟩ [] none ∧ (∀ (j : Nat) (x : Int), j < k → r[j]? = some x → hasB l x = true) ∧ e.get 0 = some la ∧ e.get 1 = some ra ∧ e.get 5 = some (.int .i64 ↑k) ∧ k ≤ r.length) ?_ ?_
   ·refine ⟨_, rfl, fun j x hj => absurd hj (by omega), ?_, ?_, ?_, ?_⟩ <;> first | exact Z2 | simp [go_sem, *]
   rintro k F ⟨e, rfl, hall, h0, h1, h5, hk⟩
   have HALL := Lib.hid hall
   clear hall
   by_cases hlt : k < r.length
   ·have hd : decide ((k : Int) < (r.length : Int)) = true := by simpa using hlt
    have hw := wrap_succ hlt hmax
    obtain ⟨x, hx⟩ := get_some hlt
    have hxi := fun H => ints_idx HR.out hx H
    have k75 := fun h => HK.out x h
    have HX := Lib.hid hx
    clear hx
    generalize hb : hasB l x = b at *
    have HB := Lib.hid hb
    clear hb
    cases b
    ·have e0 : false = res := by
      rw [← HRES.out]
      symm
      rw [Bool.eq_false_iff]
      intro h
      have := List.all_eq_true.1 h x (List.mem_of_getElem? HX.out)
      rw [HB.out] at this
      cases this
     subst e0
     repeat' (first | refine goS ?_ | (apply U6; exact Z1; exact Z1; (focus (simp only [List.nil_append, List.append_nil]; first | exact k75 _)); simp only [pM, pN, rR, rP]) | refine go2 (fun hh => ?_) (fun hh => ?_) | fail)
     all_goals (simp only [resV_def (X := dX cIV2) Tryz.func64, Tryz.results64]; first | exact J5 | refine J6 ?_)
    ·repeat' (first | refine goS ?_ | (apply U6; exact Z1; exact Z1; (focus (simp only [List.nil_append, List.append_nil]; first | exact k75 _)); simp only [pM, pN, rR, rP]) | refine go2 (fun hh => ?_) (fun hh => ?_) | fail)
     refine ⟨hlt, _, rfl, fun j y hj hy => ?_, ?_, ?_, ?_, by omega⟩
     ·rcases Nat.lt_or_ge j k with q | q
      ·exact HALL.out j y q hy
      ·obtain rfl : j = k := by omega
       rw [HX.out] at hy
       cases hy
       exact HB.out
     all_goals exact Z2
   ·have hd : decide ((k : Int) < (r.length : Int)) = false := by simpa using hlt
    have e1 : true = res := by
     rw [← HRES.out]
     symm
     rw [List.all_eq_true]
     intro x hx
     obtain ⟨j, hj⟩ := List.mem_iff_getElem?.1 hx
     have hjl : j < r.length := by
      rcases Nat.lt_or_ge j r.length with q | q
      ·exact q
      ·rw [List.getElem?_eq_none q] at hj; cases hj
     exact HALL.out j x (by omega) hj
    subst e1
    clear hlt hk
    repeat' (first | refine goS ?_ | refine go2 (fun hh => ?_) (fun hh => ?_) | fail)
    all_goals (simp only [resV_def (X := dX cIV2) Tryz.func64, Tryz.results64]; first | exact J5 | refine J6 ?_)
  ·cases h
 ·cases h
theorem K64 {X : Ctx} (hX : X.intr 64 = some (flatFn sp64)) (la ra : AV) (l r : List Int) (h : Heap) (hl : SeeV h intC la l) (hr : SeeV h intC ra r) : Cl X 64 [la, ra] h (.ret (.bool (r.all (hasB l))) h none) := by
 obtain ⟨la', v1, s1⟩ := hl
 obtain ⟨ra', v2, s2⟩ := hr
 exact Cl.intr hX (by simp [flatFn, viewVs, v1, v2, sp64, s1, s2])
noncomputable def cIV3 : Itr
 | 40 => some (pureFn sp40)
 | 43 => some (pureFn sp43)
 | 46 => some (pureFn sp46)
 | _ => none
theorem cIV3_sound : Sound (dX cIV3) := dX_sound (fun f g h => by
 unfold cIV3 at h
 split at h
 ·cases h; exact F40
 ·cases h; exact F43
 ·cases h; exact F46
 ·cases h)
theorem F40D : IntrFn Tryz.prog 40 (flatFnD sp40) := flatD_intr (X := dX cIV3) cIV3_sound (fun args v h => by
  unfold sp40 at h
  split at h
  ·split at h
   ·cases h; rfl
   ·cases h
  ·cases h) (fun args v h => ⟨emptyHp, Cl.intr (g := pureFn sp40) rfl (by
  have h0 := h
  unfold sp40 at h
  split at h
  ·split at h
   ·rename_i hl hr
    simp only [pureFn, AV.pur, AV.purL, sl_pur hl, sl_pur hr, Bool.and_self, if_true, h0]
   ·cases h
  ·cases h)⟩)
theorem F43D : IntrFn Tryz.prog 43 (flatFnD sp43) := flatD_intr (X := dX cIV3) cIV3_sound (fun args v h => by
  unfold sp43 at h
  split at h
  ·split at h
   ·have h := Option.some.inj h
    subst h
    generalize boundsS _ = A
    generalize boundsS _ = B
    generalize askOk _ _ _ _ _ = ok
    cases ok <;> cases A <;> cases B <;> rfl
   ·cases h
  ·cases h) (fun args v h => ⟨emptyHp, Cl.intr (g := pureFn sp43) rfl (by
  have h0 := h
  unfold sp43 at h
  split at h
  ·split at h
   ·rename_i hc hl hr
    simp only [pureFn, AV.pur, AV.purL, sl_pur hc, sl_pur hl, sl_pur hr, Bool.and_self, if_true, h0]
   ·cases h
  ·cases h)⟩)
theorem F46D : IntrFn Tryz.prog 46 (flatFnD sp46) := flatD_intr (X := dX cIV3) cIV3_sound (fun args v h => by
  unfold sp46 at h
  split at h
  ·split at h
   ·have h := Option.some.inj h
    subst h
    generalize boundsS _ = A
    generalize boundsS _ = B
    generalize askOk _ _ _ _ _ = ok
    cases ok <;> cases A <;> cases B <;> rfl
   ·cases h
  ·cases h) (fun args v h => ⟨emptyHp, Cl.intr (g := pureFn sp46) rfl (by
  have h0 := h
  unfold sp46 at h
  split at h
  ·split at h
   ·rename_i hc hl hr
    simp only [pureFn, AV.pur, AV.purL, sl_pur hc, sl_pur hl, sl_pur hr, Bool.and_self, if_true, h0]
   ·cases h
  ·cases h)⟩)
section
variable {X : Ctx} (sa ra ca : AV) (st hs : List Pt) (rs : List Rdg) (cx cy wx wy : Sp) (off blank : Int) (h : Heap)
theorem K40D (hX : X.intr 40 = some (flatFnD sp40)) (hl : SeeV h ptC sa st) (hr : SeeV h rdgC ra rs) : Cl X 40 [.agg [sa, .int .i64 cx.lo, .int .i64 cx.hi, .int .i64 cy.lo, .int .i64 cy.hi, .int .i64 wx.lo, .int .i64 wx.hi, .int .i64 wy.lo, .int .i64 wy.hi, ra]] h (.ret (.int .i64 (ableI (machB st cx cy wx wy rs) ((boundsS (ax0 cx wx rs [])).isSome && (boundsS (ax1 cy wy rs [])).isSome))) h none) := by
 obtain ⟨sa', v1, s1⟩ := hl
 obtain ⟨ra', v2, s2⟩ := hr
 exact Cl.intr hX (by simp only [flatFnD, viewDs, viewD_mach v1 v2, sp40, s1, s2])
theorem K43D (hX : X.intr 43 = some (flatFnD sp43)) (hc : SeeV h ptC ca hs) (hl : SeeV h ptC sa st) (hr : SeeV h rdgC ra rs) : Cl X 43 [.agg [ca, .int .i64 off], .agg [sa, .int .i64 cx.lo, .int .i64 cx.hi, .int .i64 cy.lo, .int .i64 cy.hi, .int .i64 wx.lo, .int .i64 wx.hi, .int .i64 wy.lo, .int .i64 wy.hi, ra], .int .i64 blank] h (.ret (sureF (askOk hs st off (machB st cx cy wx wy rs) (inB blank 1 12)) (boundsS (ax0 cx wx rs [])) (boundsS (ax1 cy wy rs [])) (goodB off hs st) blank) h none) := by
 obtain ⟨sa', v1, s1⟩ := hl
 obtain ⟨ra', v2, s2⟩ := hr
 obtain ⟨ca', v3, s3⟩ := hc
 have e : ∀ n, viewD h (.int .i64 n) = some (.int .i64 n) := fun n => rfl
 exact Cl.intr hX (by simp only [flatFnD, viewDs, viewD_mach v1 v2, viewD_but v3, e, sp43, s1, s2, s3])
theorem K46D (hX : X.intr 46 = some (flatFnD sp46)) (hc : SeeV h ptC ca hs) (hl : SeeV h ptC sa st) (hr : SeeV h rdgC ra rs) : Cl X 46 [.agg [ca, .int .i64 off], .agg [sa, .int .i64 cx.lo, .int .i64 cx.hi, .int .i64 cy.lo, .int .i64 cy.hi, .int .i64 wx.lo, .int .i64 wx.hi, .int .i64 wy.lo, .int .i64 wy.hi, ra]] h (.ret (gaugeF (askOk hs st off (machB st cx cy wx wy rs) true) (boundsS (ax0 cx wx rs [])) (boundsS (ax1 cy wy rs [])) (goodB off hs st)) h none) := by
 obtain ⟨sa', v1, s1⟩ := hl
 obtain ⟨ra', v2, s2⟩ := hr
 obtain ⟨ca', v3, s3⟩ := hc
 exact Cl.intr hX (by simp only [flatFnD, viewDs, viewD_mach v1 v2, viewD_but v3, sp46, s1, s2, s3])
end
end Go.AM
