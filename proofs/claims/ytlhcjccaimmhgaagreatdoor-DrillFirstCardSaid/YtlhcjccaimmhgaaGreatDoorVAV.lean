/-
  A part of the proof: contracts of functions.
-/
import Derived.Test.YtlhcjccaimmhgaaGreatDoorVAT
import Derived.Test.YtlhcjccaimmhgaaGreatDoorVAS
import Derived.Test.YtlhcjccaimmhgaaGreatDoorVAU
set_option linter.unusedSectionVars false
set_option linter.unusedVariables false
set_option linter.unusedSimpArgs false
set_option maxRecDepth 100000
namespace Go.AM
open Go Go.Proofs
variable [Keep]
attribute [local irreducible] W WO WO1 WD WQ WT thenQ blockQ endR isRet retK Cl ClR
attribute [local irreducible] roundQ RdR clR boundsS machB boxL suitB fitsM truthB orderB prvL
def hasB (l : List Int) (n : Int) : Bool := (l.take 20).any fun x => x == n
def sp75 : List AV -> Option AV
 | [la, .int .i64 n] => (slV intC la).map fun l => .bool (hasB l n)
 | _ => none
theorem p75 : ∀ args v, sp75 args = some v -> v.flat = true := by
 intro args v h
 unfold sp75 at h
 split at h
 ·simp only [Option.map_eq_some_iff] at h; obtain ⟨l, _, rfl⟩ := h; rfl
 ·cases h
set_option maxHeartbeats 1000000 in
theorem F75 : IntrFn Tryz.prog 75 (flatFn sp75) := by
 refine flat_fn (X := dX i0) i0_sound p75 ?_
 intro args v h
 unfold sp75 at h
 split at h
 ·rename_i la n
  simp only [Option.map_eq_some_iff] at h
  obtain ⟨l, hl, rfl⟩ := h
  have o1 := sl_out hl
  have ln := sl_len hl
  have hmax := sl_max hl
  have HL := Lib.hid hl
  have HB := Lib.hid (show hasB l n = (l.take 20).any (fun x => x == n) from rfl)
  generalize hasB l n = res at *
  clear hl
  refine ClR.walk (c := _) rfl Tryz.func75 rfl (by kernel_rfl) rfl isRet_fail ?_
  simp only [entryEnv, Nat.reduceAdd, emptyHp]
  repeat' (first | refine goS ?_ | refine go2 (fun hh => ?_) (fun hh => ?_) | fail)
  refine W.loopN l.length (fun i F => ∃ e, F = Fr.mk 75 false e .nil ⟨0, .nil⟩ [] none /\ (l.take i).any (fun x => x == n) = false /\ i <= 20 /\ e.get 0 = some la /\ e.get 1 = some (.int .i64 n) /\ e.get 5 = some (.int .i64 ↑i) /\ i <= l.length) ?_ ?_
  ·refine ⟨_, rfl, ?_, ?_, ?_, ?_, ?_, ?_⟩ <;> first | exact Z2 | simp [go_sem, *]
  rintro i F ⟨e, rfl, hall, hi20, h0, h1, h5, hi⟩
  have HA := Lib.hid hall
  clear hall
  by_cases hil : i < l.length
  ·have hd : decide ((i : Int) < (l.length : Int)) = true := by simpa using hil
   by_cases h20 : i < 20
   ·have hd2 : decide ((i : Int) < 20) = true := by simp; omega
    obtain ⟨x, hx⟩ := get_some hil
    have hix := fun H => isSl.idx (P := Tryz.prog) (hp := H) (slV_is HL.out).1 (t := 39) (e := 3) (ag := false) (m := 1) (k := i) (x := .int .i64 x) Tryz.underlying39 ty_lay3 (by simp [hx, intC]) rfl
    simp only [AV.cells] at hix
    have hw := wrap_succ (m := l.length) hil hmax
    have hnx : (l.take (i + 1)).any (fun x => x == n) = (x == n) := by rw [take_next hx, List.any_append, HA.out]; simp
    have HN := Lib.hid hnx
    have HX := Lib.hid hx
    clear hx hnx
    cases hq : (x == n) with
    | true =>
     have hres : res = true := by
      rw [HB.out, List.any_eq_true]
      refine ⟨x, ?_, hq⟩
      rw [List.mem_take_iff_getElem]
      have := HX.out
      obtain ⟨hx1, hx2⟩ := List.getElem?_eq_some_iff.1 this
      exact ⟨i, by omega, hx2⟩
     subst hres
     clear hil h20
     repeat' (first | refine goS ?_ | refine go2 (fun hh => ?_) (fun hh => ?_) | fail)
     all_goals (simp only [resV_def (X := dX i0) Tryz.func75, Tryz.results75]; first | exact J5 | refine J6 ?_)
    | false =>
     rw [hq] at HN
     repeat' (first | refine goS ?_ | refine go2 (fun hh => ?_) (fun hh => ?_) | fail)
     refine ⟨hil, _, rfl, HN.out, by omega, ?_, ?_, ?_, by omega⟩
     all_goals exact Z2
   ·have hd2 : decide ((i : Int) < 20) = false := by simp; omega
    have hres : res = false := by rw [HB.out, show 20 = i by omega]; exact HA.out
    subst hres
    clear hil h20
    repeat' (first | refine goS ?_ | refine go2 (fun hh => ?_) (fun hh => ?_) | fail)
    all_goals (simp only [resV_def (X := dX i0) Tryz.func75, Tryz.results75]; first | exact J5 | refine J6 ?_)
  ·have hd : decide ((i : Int) < (l.length : Int)) = false := by simpa using hil
   have hres : res = false := by
    rw [HB.out, List.take_of_length_le (by omega)]
    have := HA.out
    rw [show i = l.length by omega, List.take_length] at this
    exact this
   subst hres
   clear hil
   repeat' (first | refine goS ?_ | refine go2 (fun hh => ?_) (fun hh => ?_) | fail)
   all_goals (simp only [resV_def (X := dX i0) Tryz.func75, Tryz.results75]; first | exact J5 | refine J6 ?_)
 ·cases h
theorem K75 {X : Ctx} (hX : X.intr 75 = some (flatFn sp75)) (la : AV) (l : List Int) (n : Int) (h : Heap) (hl : SeeV h intC la l) : Cl X 75 [la, .int .i64 n] h (.ret (.bool (hasB l n)) h none) := by
 obtain ⟨la', v1, s1⟩ := hl
 have e : viewV h (.int .i64 n) = some (.int .i64 n) := rfl
 exact Cl.intr hX (by simp [flatFn, viewVs, v1, e, sp75, s1])
theorem SeeV.blt {α : Type} {c : Cd α} {a : AV} {sz : Nat} {l : List α} {h : Heap} (b : Blt h a sz (l.map c.enc)) (hl : l.length <= maxL) : SeeV h c a l :=
 ⟨_, b.view (enc_pur c l), slV_slN hl⟩
theorem SeeV.nats {a : AV} {l : List Nat} {h : Heap} (b : Blt h a 1 (natsV l)) (hl : l.length <= maxL) : SeeV h intC a (l.map fun k : Nat => (k : Int)) := by
 have h1 : natsV l = (l.map fun k : Nat => (k : Int)).map intC.enc := by simp [natsV, intC]
 rw [h1] at b
 exact SeeV.blt b (by simpa using hl)
end Go.AM
namespace Go.AM
open Go Go.Proofs
variable [Keep]
attribute [local irreducible] W WO WO1 WD WQ WT thenQ blockQ endR isRet retK Cl ClR
attribute [local irreducible] isNew roundQ RdR boundsS machB boxL suitB posH clS clN tgR addU refBoxes bothV minT refT srchT prodL possB
def gowB (st : List Pt) (b : BA) : Bool := butB b.holes b.err && decide (b.holes.length = st.length)
theorem suit_go (st : List Pt) (b : BA) : suitB true st b.holes b.err = gowB st b := by rw [suit_parts']; rfl
end Go.AM
namespace Go.AM
open Go Go.Proofs
variable [Keep]
attribute [local irreducible] W WO WO1 WD WQ WT thenQ blockQ endR isRet retK Cl ClR
attribute [local irreducible] isNew roundQ RdR boundsS machB boxL suitB posH clS clN tgR addU refBoxes bothV minT refT srchT prodL possB truthB fitsM butB
noncomputable def c17 : Itr
 | 37 => some (pureFn sp37)
 | 38 => some (pureFn sp38)
 | 41 => some (pureFn sp41)
 | 50 => some (pureFn sp50)
 | 51 => some (pureFn sp162)
 | 54 => some (pureFn sp54)
 | 63 => some (newFn 1 sp63)
 | 70 => some (pureFn sp70)
 | 71 => some (flatFn sp71)
 | 72 => some (pureFn sp72)
 | 73 => some (pureFn sp73)
 | 74 => some (pureFn sp74)
 | 75 => some (flatFn sp75)
 | 76 => some (pureFn sp76)
 | f => c25 cK f
theorem int_idx39 {a : AV} {l : List Int} (h : slV intC a = some l) {k : Nat} {n : Int} (hp : l[k]? = some n) (H : Heap) : indexAddrV Tryz.prog H 39 a (.int .i64 ↑k) = some (.vptr [.int .i64 n]) :=
 (slV_is h).1.idx (x := .int .i64 n) Tryz.underlying39 ty_lay3 (by simp [hp, intC]) rfl
theorem cut39 {a : AV} {l : List Int} (h : slV intC a = some l) {k : Nat} (hk : k <= l.length) : ∃ wl, (∀ H, sliceV Tryz.prog H 39 a none (some (some (.int .i64 ↑k))) none = some wl) /\ slV intC wl = some (l.take k) := by
 have hm := (slV_is h).2
 have hb : ∀ n, k <= n -> boundsV n none (some (some (.int .i64 (k : Int)))) none = some (0, k, false) := fun n hn => by
  have h1 : (0 : Int) <= (k : Int) /\ (k : Int) <= (n : Int) := by omega
  simp only [boundsV, boundV, h1, and_self, if_true]
  simp
 rcases (slV_is h).1 with ⟨e0, e1⟩ | e1
 ·have e1 : l = [] := by simpa using e1
  subst e1
  have hk0 : k = 0 := by simpa using hk
  subst hk0
  rcases e0 with rfl | rfl
  ·exact ⟨.nilslice, fun H => by simp only [sliceV, Tryz.underlying39, ty_lay3, lenS, hb 0 (by omega), cutV], rfl⟩
  ·exact ⟨.vempty, fun H => by simp only [sliceV, Tryz.underlying39, ty_lay3, lenS, hb 0 (by omega), cutV], rfl⟩
 ·subst e1
  have hh : headOk 1 (l.map intC.enc) = true := by cases l <;> rfl
  refine ⟨.vslice ((l.take k).map intC.enc), fun H => ?_, slV_mk (.inr rfl) (by rw [List.length_take]; omega)⟩
  have hb2 := hb (l.map intC.enc).length (by simpa using hk)
  simp only [sliceV, Tryz.underlying39, ty_lay3, lenS, hb2, cutV, Bool.false_eq_true, if_false, hh, if_true, List.drop_zero, List.map_take]
theorem has_no {l : List Int} {k : Nat} (hk : k <= 20) (n : Int) : hasB (l.take k) n = (l.take k).contains n := by
 unfold hasB
 rw [List.take_of_length_le (by rw [List.length_take]; omega)]
 rw [Bool.eq_iff_iff]
 simp [List.any_eq_true]
theorem nodup_next {l : List Int} {k : Nat} {n : Int} (h : l[k]? = some n) (hd : (l.take k).Nodup) (hc : (l.take k).contains n = false) : (l.take (k + 1)).Nodup := by
 rw [take_next h, List.nodup_append]
 refine ⟨hd, by simp, fun a ha b hb e => ?_⟩
 simp only [List.mem_singleton] at hb
 subst hb e
 rw [Bool.eq_false_iff] at hc
 exact hc (List.contains_iff_mem.2 ha)
theorem nats_of {l : List Int} (h : l.all (fun n => inB n 1 12) = true) : ∃ ns : List Nat, l = ns.map (fun k : Nat => (k : Int)) /\ ∀ k ∈ ns, 1 <= k /\ k <= 12 := by
 refine ⟨l.map Int.toNat, ?_, fun k hk => ?_⟩
 ·rw [List.map_map]
  conv => lhs; rw [<- List.map_id l]
  refine List.map_congr_left fun n hn => ?_
  have := List.all_eq_true.1 h n hn
  simp only [inB, Bool.and_eq_true, decide_eq_true_eq] at this
  simp only [id, Function.comp]
  omega
 ·obtain ⟨n, hn, rfl⟩ := List.mem_map.1 hk
  have := List.all_eq_true.1 h n hn
  simp only [inB, Bool.and_eq_true, decide_eq_true_eq] at this
  omega
theorem nodup_nats {ns : List Nat} (h : (ns.map (fun k : Nat => (k : Int))).Nodup) : ns.Nodup := by
 rw [List.nodup_iff_pairwise_ne] at *
 rw [List.pairwise_map] at h
 exact h.imp fun hab e => hab (by rw [e])
theorem moved200 {st : List Pt} {a b : Int} (h20 : st.all (okPt 20) = true) (ha : -80 <= a /\ a <= 80) (hb : -80 <= b /\ b <= 80) : (movedL st a b).all (okPt 200) = true := by
 refine List.all_eq_true.2 fun q hq => ?_
 unfold movedL at hq
 obtain ⟨p, hp, rfl⟩ := List.mem_map.1 hq
 have hp2 : (-20 <= p.x /\ p.x <= 20) /\ (-20 <= p.y /\ p.y <= 20) := by
  have e : w64 (-20) = -20 := rfl
  simpa only [okPt, inB, e, Bool.and_eq_true, decide_eq_true_eq] using List.all_eq_true.1 h20 p hp
 have w1 : w64 (p.x + a) = p.x + a := wrap_small (by omega) (by omega)
 have w2 : w64 (p.y + b) = p.y + b := wrap_small (by omega) (by omega)
 rw [w1, w2, ok200]
 simp only
 omega
theorem has_at {l : List Nat} {n : Nat} (hl : l.length <= 12) (h : n ∈ l) : hasB (l.map fun k : Nat => (k : Int)) (n : Int) = true := by
 unfold hasB
 rw [List.take_of_length_le (by rw [List.length_map]; omega)]
 exact List.any_eq_true.2 ⟨(n : Int), List.mem_map.2 ⟨n, h, rfl⟩, by simp⟩
theorem has_not {l : List Nat} {n : Nat} {k : Nat} (hn : l.Nodup) (h : l[k]? = some n) : hasB ((l.map fun k : Nat => (k : Int)).take k) (n : Int) = false := by
 unfold hasB
 rw [Bool.eq_false_iff]
 intro q
 obtain ⟨x, hx, e⟩ := List.any_eq_true.1 q
 have hx := List.mem_of_mem_take hx
 rw [<- List.map_take] at hx
 obtain ⟨m, hm, rfl⟩ := List.mem_map.1 hx
 have e : m = n := by
  have e2 : (m : Int) = (n : Int) := by simpa using e
  omega
 subst e
 obtain ⟨i, hi, he⟩ := List.mem_iff_getElem.1 hm
 rw [List.length_take] at hi
 rw [List.getElem_take] at he
 have h2 : l[i]? = some m := by rw [List.getElem?_eq_getElem (by omega), he]
 have := (List.getElem?_inj (by omega) hn).1 (h2.trans h.symm)
 omega
set_option maxHeartbeats 32000000 in
theorem T17 (la sa ra xa ya ba : AV) (cx cy wx wy : Sp) (st : List Pt) (rs : List Rdg) (xs ys bs : List Int) (l : List BA) (hl : isSl sa (st.map ptC.enc)) (hr : isSl ra (rs.map rdgC.enc)) (hla : isSl la (l.map butC.enc)) (hg : ∀ m ∈ l, m.good) (hx : isSl xa (xs.map intC.enc)) (hy : isSl ya (ys.map intC.enc)) (hba : isSl ba (bs.map intC.enc)) :
    ClR (dX c17) 17 [.agg [sa, .int .i64 cx.lo, .int .i64 cx.hi, .int .i64 cy.lo, .int .i64 cy.hi, .int .i64 wx.lo, .int .i64 wx.hi, .int .i64 wy.lo, .int .i64 wy.hi, ra], la, .agg [xa, ya], ba] emptyHp (isRet (.bool true)) := by
  have o1 := hla.out
  have o2 := hl.out
  have o3 := hr.out
  have o4 := hx.out
  have o5 := hy.out
  have o6 := hba.out
  have t1 := hla.tup
  have t2 := hl.tup
  have t3 := hr.tup
  have t4 := hx.tup
  have t5 := hy.tup
  have t6 := hba.tup
  have c2 := hl.cells
  have c3 := hr.cells
  have c4 := hx.cells
  have c5 := hy.cells
  have ln2 : lenS sa = some st.length := by rw [hl.len, List.length_map]
  have ln1 : lenS la = some l.length := by rw [hla.len, List.length_map]
  have ln6 : lenS ba = some bs.length := by rw [hba.len, List.length_map]
  have hp1 := hl.pur (enc_pur ptC st)
  have hp2 := hr.pur (enc_pur rdgC rs)
  have hp3 := hx.pur (enc_pur intC xs)
  have hp4 := hy.pur (enc_pur intC ys)
  have k25 : ∀ h, Cl (dX c17) 25 [] h (.ret (.bool true) h none) := fun h => K25 rfl h
  have k38 : ∀ h, Cl (dX c17) 38 [.agg [sa, .int .i64 cx.lo, .int .i64 cx.hi, .int .i64 cy.lo, .int .i64 cy.hi, .int .i64 wx.lo, .int .i64 wx.hi, .int .i64 wy.lo, .int .i64 wy.hi, ra]] h (.ret (.bool (decide ((st.length : Int) <= 6) && decide ((rs.length : Int) <= 6))) h none) := fun h => by
    have h1 := slLen_mk hl
    have h2 := slLen_mk hr
    exact Cl.intr (g := pureFn sp38) rfl (by simp [pureFn, AV.pur, AV.purL, hp1, hp2, sp38, h1, h2])
  have k70 : ∀ h, Cl (dX c17) 70 [.agg [xa, ya]] h (.ret (.bool (decide ((xs.length : Int) <= 15) && decide ((ys.length : Int) <= 15))) h none) := fun h => by
    have h1 := slLen_mk hx
    have h2 := slLen_mk hy
    exact Cl.intr (g := pureFn sp70) rfl (by simp [pureFn, AV.pur, AV.purL, hp3, hp4, sp70, h1, h2])
  have k48 := fun h => C48 c17 rfl rfl la l hla hg h
  simp only [isTuple] at t1 t2 t3 t4 t5 t6
  simp only [AV.cells] at c2 c3 c4 c5
  by_cases gs : (decide ((st.length : Int) <= 6) && decide ((rs.length : Int) <= 6)) = true /\ btnsB l = true /\ (decide ((xs.length : Int) <= 15) && decide ((ys.length : Int) <= 15)) = true /\ decide ((bs.length : Int) > 5) = false
  · obtain ⟨ga, gb, gc, gd⟩ := gs
    have g1 := ga
    have g2 := gb
    have g3 := gc
    have g4 := gd
    simp only [Bool.and_eq_true, decide_eq_true_eq] at g1 g3
    simp only [decide_eq_false_iff_not] at g4
    unfold btnsB at g2
    simp only [Bool.and_eq_true, decide_eq_true_eq] at g2
    have ht6 : l.take 6 = l := List.take_of_length_le (by omega)
    rw [ht6] at g2
    have hok : l.all BA.ok = true := List.all_eq_true.2 fun m hm => BA.good_ok (hg m hm) (List.all_eq_true.1 g2.1 m hm)
    have v1 : slV butC la = some l := slV_mk hla (by unfold maxL; omega)
    have v2 : slV ptC sa = some st := slV_mk hl (by unfold maxL; omega)
    have v3 : slV rdgC ra = some rs := slV_mk hr (by unfold maxL; omega)
    have v4 : slV intC xa = some xs := slV_mk hx (by unfold maxL; omega)
    have v5 : slV intC ya = some ys := slV_mk hy (by unfold maxL; omega)
    have v6 : slV intC ba = some bs := slV_mk hba (by unfold maxL; omega)
    rw [ga] at k38
    rw [gb] at k48
    rw [gc] at k70
    have k71 : ∀ h, Cl (dX c17) 71 [.agg [sa, .int .i64 cx.lo, .int .i64 cx.hi, .int .i64 cy.lo, .int .i64 cy.hi, .int .i64 wx.lo, .int .i64 wx.hi, .int .i64 wy.lo, .int .i64 wy.hi, ra]] h (.ret (.bool (machB st cx cy wx wy rs)) h none) := fun h => by
      have := K71 (X := dX c17) rfl sa ra st rs cx cy wx wy v2 v3 h
      rw [machR_B] at this
      exact this
    have k72 : ∀ h, Cl (dX c17) 72 [.agg [xa, ya]] h (.ret (.bool (truthB xs ys)) h none) := fun h => K72 (X := dX c17) rfl xa ya xs ys v4 v5 h
    by_cases hall : machB st cx cy wx wy rs = true /\ truthB xs ys = true /\ ((l.length : Int) == 0) = false /\ decide ((l.length : Int) > 3) = false /\ ((bs.length : Int) != (l.length : Int)) = false
    · obtain ⟨m1, m2, m3, m4, m5⟩ := hall
      have k73 : ∀ h, Cl (dX c17) 73 [.agg [sa, .int .i64 cx.lo, .int .i64 cx.hi, .int .i64 cy.lo, .int .i64 cy.hi, .int .i64 wx.lo, .int .i64 wx.hi, .int .i64 wy.lo, .int .i64 wy.hi, ra], .agg [xa, ya]] h (.ret (fitV (machB st cx cy wx wy rs && truthB xs ys) (fitsM cx cy wx wy rs xs ys)) h none) := fun h =>
        Cl.intr (g := pureFn sp73) rfl (by simp [pureFn, AV.pur, AV.purL, hp1, hp2, hp3, hp4, sp73, v2, v3, v4, v5])
      have h74 : fitsM cx cy wx wy rs xs ys = true -> ∀ n : Nat, n <= 12 -> ∀ h, Cl (dX c17) 74 [.agg [sa, .int .i64 cx.lo, .int .i64 cx.hi, .int .i64 cy.lo, .int .i64 cy.hi, .int .i64 wx.lo, .int .i64 wx.hi, .int .i64 wy.lo, .int .i64 wy.hi, ra], .agg [xa, ya], .int .i64 ↑n] h (.ret (.tuple [slN ((movedL st (xs.getD n 0) (ys.getD n 0)).map ptC.enc), .int .i64 0]) h none) := fun hf n hn h =>
        Cl.intr (g := pureFn sp74) rfl (by
          have e : inB (n : Int) 0 12 = true := by simp [inB]; omega
          simp [pureFn, AV.pur, AV.purL, hp1, hp2, hp3, hp4, sp74, v2, v3, v4, v5, m1, m2, hf, e, holeV])
      have h50 := fun q h => K50 (X := dX c17) rfl sa ra la st rs l cx cy wx wy v2 v3 v1 hok q h
      have h63 := fun (b : BA) (hb : b.ok = true) (h : Heap) => K63 (X := dX c17) rfl sa ra b.ha st b.holes rs cx cy wx wy b.err h (.of v2 h) (.of v3 h) (.of (BA.ok_is hb) h) (suitB (machB st cx cy wx wy rs) st b.holes b.err) (possB cx cy wx wy rs) (couldN (fun n => (boxL b.err st b.holes).any (canB cx cy wx wy rs n)) 12) rfl rfl rfl
      rw [m1, m2] at k73
      simp only [fitV, Bool.and_self, if_true] at k73
      have hlen3 : 1 <= l.length /\ l.length <= 3 := by
        have q3 := beq_eq_false_iff_ne.1 m3
        have q4 := of_decide_eq_false m4
        omega
      have hbl : bs.length = l.length := by
        have q5 := m5
        simp only [bne_eq_false_iff_eq] at q5
        omega
      have hms := mach_small m1
      have h20 : st.all (okPt 20) = true := by
        have q := m1
        unfold machB at q
        simp only [Bool.and_eq_true, decide_eq_true_eq] at q
        have h7 : allB st 2 20 = true := by simp only [q]
        rw [allB_P] at h7
        simp only [pointsB, Bool.and_eq_true] at h7
        exact h7.1
      have HM1 := Lib.hid m1
      have HM2 := Lib.hid m2
      have H20 := Lib.hid h20
      have HMS := Lib.hid hms
      have HV6 := Lib.hid v6
      have HV1 := Lib.hid v1
      have HOK := Lib.hid hok
      have H50 := Lib.hid h50
      have H63 := Lib.hid h63
      have H74 := Lib.hid h74
      have HL3 := Lib.hid hlen3
      have HBL := Lib.hid hbl
      have K71' := k71
      have K72' := k72
      rw [m1] at k71
      rw [m2] at k72
      have sp : IntKind.i64.wrap 0 = 0 := rfl
      clear hl hr hla hx hy hba hp1 hp2 hp3 hp4 v1 v2 v3 v4 v5 v6 ga gb gc g1 g2 g3 g4 ht6 hok h50 h63 h74 hlen3 hbl hms h20 K71' K72' m1 m2 hg
      refine ClR.walk (c := _) rfl Tryz.func17 rfl (by kernel_rfl) rfl isRet_fail ?_
      simp only [entryEnv, Nat.reduceAdd, emptyHp]
      repeat' (first | refine goS ?_ | (apply U6; exact Z1; exact Z1; (focus (simp only [List.nil_append, List.append_nil]; first | exact k38 _ | exact k48 _ | exact k70 _ | exact k71 _ | exact k72 _)); simp only [pM, pN, rR, rP]) | refine go2 (fun hh => ?_) (fun hh => ?_) | fail)
      refine W.loopN l.length (fun k F => ∃ e lm, F = Fr.mk 17 false e lm ⟨0, .nil⟩ [] none /\ ((l.take k).all (gowB st) = true /\ (bs.take k).all (fun n => inB n 1 12) = true /\ (bs.take k).Nodup) /\ lm.get 4 = some (0, [sa, .int .i64 cx.lo, .int .i64 cx.hi, .int .i64 cy.lo, .int .i64 cy.hi, .int .i64 wx.lo, .int .i64 wx.hi, .int .i64 wy.lo, .int .i64 wy.hi, ra]) /\ lm.get 6 = some (0, [xa, ya]) /\ e.get 1 = some la /\ e.get 3 = some ba /\ e.get 4 = some (.lptr 4 0 0) /\ e.get 6 = some (.lptr 6 0 0) /\ e.get 9 = some (.int .i64 ↑k) /\ k <= l.length) ?_ ?_
      · refine ⟨_, _, rfl, ⟨by simp, by simp, by simp⟩, ?_, ?_, ?_, ?_, ?_, ?_, ?_, ?_⟩ <;> first | exact Z2 | simp [go_sem, *]
      clear k38 k48 k70 k71 k72
      rintro k F ⟨e, lm, rfl, hinv, m4', m6', h1, h3, h4, h6, h9, hk⟩
      have HINV := Lib.hid hinv
      clear hinv
      by_cases hlt : k < l.length
      · obtain ⟨b, hbk⟩ := get_some hlt
        obtain ⟨n, hn⟩ := get_some (show k < bs.length by rw [HBL.out]; exact hlt)
        have hbo := List.all_eq_true.1 HOK.out b (List.mem_of_getElem? hbk)
        have cb := BA.cells hbo
        have qb := BA.ok_is hbo
        have ob := sl_out qb
        have lb := sl_len qb
        have tb := (sl_one qb).2
        have hix := fun H => but_idx HV1.out hbk (by rw [cb]; rfl) H
        have hin := fun H => int_idx39 HV6.out hn H
        obtain ⟨wl, hcut, hwl⟩ := cut39 HV6.out (k := k) (by have := HBL.out; omega)
        have owl := sl_out hwl
        have k51 := fun h => K51 (X := dX c17) rfl b.ha b.holes b.err qb h
        have k41 := fun h => K41 (X := dX c17) rfl n 1 h
        have k75 := fun h => K75 (X := dX c17) rfl wl (bs.take k) n h (.of hwl h)
        rw [has_no (by have := HL3.out; omega)] at k75
        have hd : decide ((k : Int) < (l.length : Int)) = true := by simpa using hlt
        have hw := wrap_succ hlt (show l.length <= maxL by have := HL3.out; unfold maxL; omega)
        have hle : ((b.holes.length : Int) != (st.length : Int)) = !decide (b.holes.length = st.length) := by
          rw [Bool.eq_iff_iff]
          simp
          omega
        have hnx1 : (l.take (k + 1)).all (gowB st) = (butB b.holes b.err && decide (b.holes.length = st.length)) := by rw [take_next hbk, List.all_append, HINV.out.1]; simp [gowB]
        have hnx2 : (bs.take (k + 1)).all (fun n => inB n 1 12) = inB n 1 12 := by rw [take_next hn, List.all_append, HINV.out.2.1]; simp
        have hnx3 : (bs.take k).contains n = false -> (bs.take (k + 1)).Nodup := fun q => nodup_next hn HINV.out.2.2 q
        have HN1 := Lib.hid hnx1
        have HN2 := Lib.hid hnx2
        have HN3 := Lib.hid hnx3
        have HK51 := Lib.hid (k51 ⟨0, .nil⟩)
        have HK41 := Lib.hid (k41 ⟨0, .nil⟩)
        have HK75a := Lib.hid (k75 ⟨0, .nil⟩)
        simp only [AV.cells] at cb
        simp only [isTuple] at tb
        clear hbk hn hbo qb hwl hnx1 hnx2 hnx3 k51 k41 k75
        generalize (bs.take k).contains n = ct at *
        generalize inB n 1 12 = bk at *
        generalize butB b.holes b.err = bt at *
        generalize decide (b.holes.length = st.length) = dl at *
        have hcase : (bt = false) \/ (bt = true /\ dl = false) \/ (bt = true /\ dl = true /\ bk = false) \/ (bt = true /\ dl = true /\ bk = true /\ ct = true) \/ (bt = true /\ dl = true /\ bk = true /\ ct = false) := by
          cases bt <;> cases dl <;> cases bk <;> cases ct <;> simp
        rcases hcase with rfl | ⟨rfl, rfl⟩ | ⟨rfl, rfl, rfl⟩ | ⟨rfl, rfl, rfl, rfl⟩ | ⟨rfl, rfl, rfl, rfl⟩
        · repeat' (first | (apply W.drawQ (id := 6) (l1 := [0, 1, 2, 3, 4, 5, 6, 7, 8, 9, 10, 11, 12, 13, 14, 15, 16, 17, 18, 19, 20, 21, 22, 23, 24, 25, 26, 27, 28, 29, 30, 31, 32, 33, 34, 35]) (l2 := []); kernel_rfl; kernel_rfl; kernel_rfl; exact Z4) | refine go1 ?_ | (apply U6; exact Z1; exact Z1; (focus (simp only [List.nil_append, List.append_nil]; first | exact HK51.out | exact k25 _)); simp only [pM, pN, rR, rP]) | refine go2 (fun hh => ?_) (fun hh => ?_) | fail)
          all_goals (simp only [resV_def (X := dX c17) Tryz.func17, Tryz.results17]; first | exact J5 | refine J6 ?_)
        · simp only [Bool.not_false] at hle
          repeat' (first | (apply W.drawQ (id := 6) (l1 := [0, 1, 2, 3, 4, 5, 6, 7, 8, 9, 10, 11, 12, 13, 14, 15, 16, 17, 18, 19, 20, 21, 22, 23, 24, 25, 26, 27, 28, 29, 30, 31, 32, 33, 34, 35]) (l2 := []); kernel_rfl; kernel_rfl; kernel_rfl; exact Z4) | refine go1 ?_ | (apply U6; exact Z1; exact Z1; (focus (simp only [List.nil_append, List.append_nil]; first | exact HK51.out | exact k25 _)); simp only [pM, pN, rR, rP]) | refine go2 (fun hh => ?_) (fun hh => ?_) | fail)
          all_goals (simp only [resV_def (X := dX c17) Tryz.func17, Tryz.results17]; first | exact J5 | refine J6 ?_)
        · simp only [Bool.not_true] at hle
          repeat' (first | (apply W.drawQ (id := 6) (l1 := [0, 1, 2, 3, 4, 5, 6, 7, 8, 9, 10, 11, 12, 13, 14, 15, 16, 17, 18, 19, 20, 21, 22, 23, 24, 25, 26, 27, 28, 29, 30, 31, 32, 33, 34, 35]) (l2 := []); kernel_rfl; kernel_rfl; kernel_rfl; exact Z4) | refine go1 ?_ | (apply U6; exact Z1; exact Z1; (focus (simp only [List.nil_append, List.append_nil]; first | exact HK51.out | exact HK41.out | exact k25 _)); simp only [pM, pN, rR, rP]) | refine go2 (fun hh => ?_) (fun hh => ?_) | fail)
          all_goals (simp only [resV_def (X := dX c17) Tryz.func17, Tryz.results17]; first | exact J5 | refine J6 ?_)
        · simp only [Bool.not_true] at hle
          repeat' (first | (apply W.drawQ (id := 6) (l1 := [0, 1, 2, 3, 4, 5, 6, 7, 8, 9, 10, 11, 12, 13, 14, 15, 16, 17, 18, 19, 20, 21, 22, 23, 24, 25, 26, 27, 28, 29, 30, 31, 32, 33, 34, 35]) (l2 := []); kernel_rfl; kernel_rfl; kernel_rfl; exact Z4) | (apply U4 (v := wl); (focus (simp only [go_sem, *, Nat.reduceLT, Int.reduceEq, Int.reduceBEq, Int.reduceLE, Int.reduceLT, Nat.reduceAdd, Nat.reduceBEq, Nat.reduceEqDiff, reduceIte, Nat.reduceLeDiff, Nat.reduceMul, Nat.reduceSub, reduceCtorEq, Option.map_none, Option.map_some]; done)); exact rfl; simp only [pM, pN, rR, rP]) | refine go1 ?_ | (apply U6; exact Z1; exact Z1; (focus (simp only [List.nil_append, List.append_nil]; first | exact HK51.out | exact HK41.out | exact HK75a.out | exact k25 _)); simp only [pM, pN, rR, rP]) | refine go2 (fun hh => ?_) (fun hh => ?_) | fail)
          all_goals (simp only [resV_def (X := dX c17) Tryz.func17, Tryz.results17]; first | exact J5 | refine J6 ?_)
        · simp only [Bool.not_true] at hle
          repeat' (first | (apply W.drawQ (id := 6) (l1 := [0, 1, 2, 3, 4, 5, 6, 7, 8, 9, 10, 11, 12, 13, 14, 15, 16, 17, 18, 19, 20, 21, 22, 23, 24, 25, 26, 27, 28, 29, 30, 31, 32, 33, 34, 35]) (l2 := []); kernel_rfl; kernel_rfl; kernel_rfl; exact Z4) | (apply U4 (v := wl); (focus (simp only [go_sem, *, Nat.reduceLT, Int.reduceEq, Int.reduceBEq, Int.reduceLE, Int.reduceLT, Nat.reduceAdd, Nat.reduceBEq, Nat.reduceEqDiff, reduceIte, Nat.reduceLeDiff, Nat.reduceMul, Nat.reduceSub, reduceCtorEq, Option.map_none, Option.map_some]; done)); exact rfl; simp only [pM, pN, rR, rP]) | refine go1 ?_ | (apply U6; exact Z1; exact Z1; (focus (simp only [List.nil_append, List.append_nil]; first | exact HK51.out | exact HK41.out | exact HK75a.out)); simp only [pM, pN, rR, rP]) | refine go2 (fun hh => ?_) (fun hh => ?_) | fail)
          refine ⟨hlt, _, _, rfl, ⟨HN1.out, HN2.out, HN3.out rfl⟩, ?_, ?_, ?_, ?_, ?_, ?_, ?_, by omega⟩
          all_goals exact Z2
      · have hd : decide ((k : Int) < (l.length : Int)) = false := by simpa using hlt
        obtain ⟨i1, i2, i3⟩ := HINV.out
        rw [List.take_of_length_le (by omega)] at i1
        rw [List.take_of_length_le (by have := HBL.out; omega)] at i2 i3
        obtain ⟨ns, hns, hnr⟩ := nats_of i2
        subst hns
        have hnd := nodup_nats i3
        have hsu : ∀ b ∈ l, suitB (machB st cx cy wx wy rs) st b.holes b.err = true := fun b hb => by
          rw [HM1.out, suit_go]
          exact List.all_eq_true.1 i1 b hb
        have hnl : ns.length = l.length := by have := HBL.out; rwa [List.length_map] at this
        have htog : togOk (machB st cx cy wx wy rs) st l = true := by
          unfold togOk
          have q1 : inB (l.length : Int) 1 3 = true := by have := HL3.out; simp [inB]; omega
          rw [HM1.out] at hsu ⊢
          rw [q1, List.all_eq_true.2 hsu]
          rfl
        have hprod : prodL (l.map (ddB st)) <= 16000000 := by
          have q1 := prodL_le (m := 192) (l.map (ddB st)) (fun x hx => by
            obtain ⟨y, hy, rfl⟩ := List.mem_map.1 hx
            obtain ⟨p1, p2, p3, p4, p5⟩ := suit_pts (hsu y hy)
            rw [<- show refBoxes y.err st y.holes 8 = ddB st y from refBoxes_dd p1 p2 p3 p4 p5]
            exact refBoxes_lenB y.err HMS.out.2.1 8)
          rw [List.length_map] at q1
          have q2 : (192 + 1) ^ l.length <= (192 + 1) ^ 3 := Nat.pow_le_pow_right (by omega) HL3.out.2
          omega
        have k50 := fun h => H50.out (.inr hprod) h
        rw [htog, show srchT (posH cx cy wx wy rs) (l.map (ddB st)) [] [[]] = refT (posH cx cy wx wy rs) (l.map (ddB st)) [] [] from srch_ref _ _] at k50
        have hpos : fitsM cx cy wx wy rs xs ys = true -> possB cx cy wx wy rs = true := fun hf => by
          rw [<- posH_nil]
          exact posH_true (ms := []) HM1.out HM2.out hf (fun m hm => by simp at hm)
        have hlaw := fun s e => first_law (l := l) HM1.out hsu (s := s) e
        have htrue := fun (hf : fitsM cx cy wx wy rs xs ys = true) hd => first_true HM1.out hsu HM2.out hf hnl hnr hnd hd
        obtain ⟨ev, yl, hret, hev, hyl, hfinal⟩ : ∃ (ev : Int) (yl : List Nat), togV true (possB cx cy wx wy rs) (refT (posH cx cy wx wy rs) (l.map (ddB st)) [] []) = .tuple [slN (natsV yl), .int .i64 ev] /\ ((ev = 0 /\ yl.length = l.length) \/ (ev = 5 /\ yl = []) \/ (ev = 7 /\ yl = [])) /\
            (yl.length <= 3 /\ yl.Nodup /\ (∀ (j : Nat) (n : Nat), yl[j]? = some n -> possB cx cy wx wy rs = true /\ (1 <= n /\ n <= 12) /\ ∃ b, l[j]? = some b /\ n ∈ couldN (fun n => (boxL b.err st b.holes).any (canB cx cy wx wy rs n)) 12)) /\
            (fitsM cx cy wx wy rs xs ys = true -> (∀ (j : Nat) (b : BA) (n : Nat), l[j]? = some b -> ns[j]? = some n -> drlB b.err (movedL st (xs.getD n 0) (ys.getD n 0)) b.holes = true) -> ev = 0 /\ lexB ns yl = false) := by
          cases hp : possB cx cy wx wy rs with
          | false => exact ⟨7, [], rfl, .inr (.inr ⟨rfl, rfl⟩), ⟨by simp, by simp, fun j n h => by simp at h⟩, fun hf _ => by have := hpos hf; rw [hp] at this; cases this⟩
          | true =>
            cases hso : refT (posH cx cy wx wy rs) (l.map (ddB st)) [] [] with
            | none => exact ⟨5, [], rfl, .inr (.inl ⟨rfl, rfl⟩), ⟨by simp, by simp, fun j n h => by simp at h⟩, fun hf hd => by
                obtain ⟨s, e, _⟩ := htrue hf hd
                rw [hso] at e
                cases e⟩
            | some s =>
              obtain ⟨f1, f2, f3, f4⟩ := hlaw s hso
              refine ⟨0, s, rfl, .inl ⟨rfl, f1⟩, ⟨by have := HL3.out; omega, f3, fun j n h => ⟨rfl, f2 n (List.mem_of_getElem? h), ?_⟩⟩, fun hf hd => ?_⟩
              · obtain ⟨b, hb⟩ := get_some (show j < l.length by
                  rw [<- f1]
                  exact (List.getElem?_eq_some_iff.1 h).1)
                exact ⟨b, hb, f4 j b n hb h⟩
              · obtain ⟨s', e, e2⟩ := htrue hf hd
                rw [hso] at e
                cases e
                exact ⟨rfl, e2⟩
        rw [hret] at k50
        have hyv := slN_is (natsV yl)
        have hysl : slV intC (slN (natsV yl)) = some (yl.map fun k : Nat => (k : Int)) := by rw [natsV_ints]; exact slV_slN (by rw [List.length_map]; unfold maxL; omega)
        have oyv := hyv.out
        have tyv := hyv.tup
        have cyv := hyv.cells
        have lyv := hyv.len
        rw [natsV_len] at lyv
        have k37 : ∀ H, Cl (dX c17) 37 [ba, slN (natsV yl)] H (.ret (.bool (lexB ns yl)) H none) := fun H => by
          have := bef_lex ns yl
          exact Cl.intr (g := pureFn sp37) rfl (by simp only [pureFn, AV.purL, sl_pur HV6.out, sl_pur hysl, Bool.and_self, if_true, sp37, HV6.out, hysl, this])
        have HYL := Lib.hid hyl
        have HFIN := Lib.hid hfinal
        have HYS := Lib.hid hysl
        have HSU := Lib.hid hsu
        have HNR := Lib.hid hnr
        have HNL := Lib.hid hnl
        generalize slN (natsV yl) = yv at *
        generalize hfb : fitsM cx cy wx wy rs xs ys = fb at *
        have HFB := Lib.hid hfb
        clear hret hyl hfinal hysl hyv hsu hnr hnl hpos hlaw htrue htog hprod i1 i2 i3 hnd hlt hk hfb
        have b00 : ((0 : Int) != 0) = false := rfl
        simp only [isTuple] at tyv
        simp only [AV.cells] at cyv
        have hev2 : (ev = 0 /\ ((yl.length : Int) != (l.length : Int)) = false) \/ ev = 5 \/ ev = 7 := by
          rcases hev with ⟨q1, q2⟩ | ⟨q1, _⟩ | ⟨q1, _⟩
          · exact .inl ⟨q1, by rw [q2]; simp⟩
          · exact .inr (.inl q1)
          · exact .inr (.inr q1)
        clear hev
        have hev3 : (ev = 0 /\ ((yl.length : Int) != (l.length : Int)) = false /\ (ev != 0) = false /\ (ev == 0) = true) \/ (ev = 5 /\ (ev != 0) = true /\ (ev != 5) = false /\ (ev == 0) = false) \/ (ev = 7 /\ (ev != 0) = true /\ (ev != 5) = true /\ (ev != 7) = false /\ (ev == 0) = false) := by
          rcases hev2 with ⟨q1, q2⟩ | q1 | q1
          · exact .inl ⟨q1, q2, by rw [q1]; rfl, by rw [q1]; rfl⟩
          · exact .inr (.inl ⟨q1, by rw [q1]; rfl, by rw [q1]; rfl, by rw [q1]; rfl⟩)
          · exact .inr (.inr ⟨q1, by rw [q1]; rfl, by rw [q1]; rfl, by rw [q1]; rfl, by rw [q1]; rfl⟩)
        clear hev2
        rcases hev3 with ⟨hev, hll, f0, f1⟩ | ⟨hev, f0, f1, f2⟩ | ⟨hev, f0, f1, f2, f3⟩
        all_goals (
          have HEV := Lib.hid hev
          clear hev
          repeat' (first | (refine WO1.gund rfl rfl ?_ ?_; exact Z2; simp only [pM, pN]) | refine go1 ?_ | (apply U6; exact Z1; exact Z1; (focus (simp only [List.nil_append, List.append_nil]; first | exact k73 _ | exact k50 _)); simp only [pM, pN, rR, rP]) | refine go2 (fun hh => ?_) (fun hh => ?_) | fail)
          refine W.loopN yl.length (fun k F => ∃ e lm hp, F = Fr.mk 17 false e lm hp [] none /\ lm.get 4 = some (0, [sa, .int .i64 cx.lo, .int .i64 cx.hi, .int .i64 cy.lo, .int .i64 cy.hi, .int .i64 wx.lo, .int .i64 wx.hi, .int .i64 wy.lo, .int .i64 wy.hi, ra]) /\ lm.get 6 = some (0, [xa, ya]) /\ e.get 1 = some la /\ e.get 3 = some ba /\ e.get 4 = some (.lptr 4 0 0) /\ e.get 6 = some (.lptr 6 0 0) /\ e.get 10 = some (.bool fb) /\ e.get 12 = some yv /\ e.get 13 = some (.int .i64 ev) /\ e.get 14 = some (.int .i64 ↑k) /\ k <= yl.length) ?_ ?_
          · refine ⟨_, _, _, rfl, ?_, ?_, ?_, ?_, ?_, ?_, ?_, ?_, ?_, ?_, ?_⟩ <;> first | exact Z2 | simp [go_sem, *]
          clear k73 k50 m4' m6' h1 h3 h4 h6 h9 hd
          rintro k F ⟨e, lm, ⟨qn, qm⟩, rfl, m4', m6', h1, h3, h4, h6, h10, h12, h13, h14, hk⟩
          by_cases hlt : k < yl.length
          · obtain ⟨n, hn⟩ := get_some hlt
            obtain ⟨hps, hn12, b, hbk, hcm⟩ := HYL.out.2.2 k n hn
            have hbo := List.all_eq_true.1 HOK.out b (List.mem_of_getElem? hbk)
            have cb := BA.cells hbo
            have qb := BA.ok_is hbo
            have ob := sl_out qb
            have tb := (sl_one qb).2
            have hix := fun H => but_idx HV1.out hbk (by rw [cb]; rfl) H
            have hin := fun H => int_idx39 HYS.out (n := (n : Int)) (k := k) (by rw [List.getElem?_map, hn]; rfl) H
            obtain ⟨wl, hcut, hwl⟩ := cut39 HYS.out (k := k) (by rw [List.length_map]; omega)
            have owl := sl_out hwl
            obtain ⟨v, ⟨zn, zm⟩, hc63, hbv, hxx⟩ := H63.out b hbo ⟨qn, qm⟩
            rw [HSU.out b (List.mem_of_getElem? hbk), hps] at hc63 hbv
            simp only [if_true, Bool.and_self] at hc63 hbv
            have ov := hbv.out
            have tv := hbv.tup
            have cv := hbv.cells
            have hcl := couldN_len (fun n => (boxL b.err st b.holes).any (canB cx cy wx wy rs n)) 12
            have k41 := K41 (X := dX c17) rfl (n : Int) 1 ⟨zn, zm⟩
            rw [show inB (n : Int) 1 12 = true by simp [inB]; omega] at k41
            have k75a := K75 (X := dX c17) rfl wl _ (n : Int) ⟨zn, zm⟩ (.of hwl _)
            rw [has_not HYL.out.2.1 hn] at k75a
            have k75b := K75 (X := dX c17) rfl v _ (n : Int) ⟨zn, zm⟩ (.nats hbv (by unfold maxL; omega))
            rw [has_at hcl hcm] at k75b
            have hd : decide ((k : Int) < (yl.length : Int)) = true := by simpa using hlt
            have hw := wrap_succ hlt (show yl.length <= maxL by have := HYL.out.1; unfold maxL; omega)
            have HK41 := Lib.hid k41
            have HK75a := Lib.hid k75a
            have HK75b := Lib.hid k75b
            simp only [AV.cells] at cb cv
            simp only [isTuple] at tb tv
            clear hn hbk hbo qb hwl hbv hxx hcl hcm k41 k75a k75b hps hn12
            repeat' (first | (apply W.draw (id := 17) (lc := [0, 1, 2, 3, 4, 5, 6, 7, 8, 9, 10]) (hot := []); kernel_rfl; kernel_rfl; kernel_rfl; exact Z4) | (apply WD.cons (o := ⟨some 158, _, _, _, _, none⟩); exact rfl; exact rfl) | (apply WD.cons (o := ⟨some 15, _, _, _, _, none⟩); exact rfl; exact rfl) | (apply WD.cons (o := ⟨some 16, _, _, _, _, none⟩); exact rfl; exact rfl) | (refine WD.cons rfl rfl ?_) | (refine WD.nil ⟨?_, ?_⟩; rotate_left; simp only [tN, bN, eN, true_and]) | (refine calmR rfl rfl rfl rfl rfl ?_ ?_; (focus (first | exact Z2 | exact Z1))) | (refine calmE rfl rfl rfl rfl rfl ?_ ?_; (focus (first | exact Z2 | exact Z1))) | (with_reducible refine calmEnd) | (apply W.drawQ (id := 18) (l1 := [0, 1, 2, 3, 4, 5, 6, 7, 8, 9, 10, 11, 12, 13, 14, 15, 16, 17, 18, 19, 20, 21, 22, 23, 24, 25, 26, 27, 28]) (l2 := []); kernel_rfl; kernel_rfl; kernel_rfl; exact Z4) | (apply U6; exact Z1; exact Z1; (focus (exact hc63)); simp only [pM, pN, rR, rP]) | (apply U4 (v := wl); (focus (simp only [go_sem, *, Nat.reduceLT, Int.reduceEq, Int.reduceBEq, Int.reduceLE, Int.reduceLT, Nat.reduceAdd, Nat.reduceBEq, Nat.reduceEqDiff, reduceIte, Nat.reduceLeDiff, Nat.reduceMul, Nat.reduceSub, reduceCtorEq, Option.map_none, Option.map_some]; done)); exact rfl; simp only [pM, pN, rR, rP]) | refine go1 ?_ | (apply U6; exact Z1; exact Z1; (focus (simp only [List.nil_append, List.append_nil]; first | exact HK41.out | exact HK75a.out | exact HK75b.out)); simp only [pM, pN, rR, rP]) | refine go2 (fun hh => ?_) (fun hh => ?_) | fail)
            refine ⟨hlt, _, _, _, rfl, ?_, ?_, ?_, ?_, ?_, ?_, ?_, ?_, ?_, ?_, by omega⟩
            all_goals exact Z2
          · have hd : decide ((k : Int) < (yl.length : Int)) = false := by simpa using hlt
            clear hlt hk
            cases fb with
            | false =>
              repeat' (first | refine goS ?_ | (apply U6; exact Z1; exact Z1; (focus (simp only [List.nil_append, List.append_nil]; first | exact k25 _)); simp only [pM, pN, rR, rP]) | refine go2 (fun hh => ?_) (fun hh => ?_) | fail)
              all_goals (simp only [resV_def (X := dX c17) Tryz.func17, Tryz.results17]; first | exact J5 | refine J6 ?_)
            | true =>
              repeat' (first | refine goS ?_ | refine go2 (fun hh => ?_) (fun hh => ?_) | fail)
              refine W.loopN l.length (fun k F => ∃ e lm, F = Fr.mk 17 false e lm ⟨qn, qm⟩ [] none /\ (∀ (j : Nat) (b : BA) (n : Nat), j < k -> l[j]? = some b -> ns[j]? = some n -> drlB b.err (movedL st (xs.getD n 0) (ys.getD n 0)) b.holes = true) /\ lm.get 4 = some (0, [sa, .int .i64 cx.lo, .int .i64 cx.hi, .int .i64 cy.lo, .int .i64 cy.hi, .int .i64 wx.lo, .int .i64 wx.hi, .int .i64 wy.lo, .int .i64 wy.hi, ra]) /\ lm.get 6 = some (0, [xa, ya]) /\ e.get 1 = some la /\ e.get 3 = some ba /\ e.get 4 = some (.lptr 4 0 0) /\ e.get 6 = some (.lptr 6 0 0) /\ e.get 12 = some yv /\ e.get 13 = some (.int .i64 ev) /\ e.get 17 = some (.int .i64 ↑k) /\ k <= l.length) ?_ ?_
              · refine ⟨_, _, rfl, fun j b n hj => absurd hj (by omega), ?_, ?_, ?_, ?_, ?_, ?_, ?_, ?_, ?_, ?_⟩ <;> first | exact Z2 | simp [go_sem, *]
              clear m4' m6' h1 h3 h4 h6 h10 h12 h13 h14 hd
              rintro k F ⟨e, lm, rfl, hdr, m4', m6', h1, h3, h4, h6, h12, h13, h17, hk⟩
              have HDR := Lib.hid hdr
              clear hdr
              by_cases hlt : k < l.length
              · obtain ⟨b, hbk⟩ := get_some hlt
                obtain ⟨n, hn⟩ := get_some (show k < ns.length by rw [HNL.out]; exact hlt)
                have hbo := List.all_eq_true.1 HOK.out b (List.mem_of_getElem? hbk)
                have cb := BA.cells hbo
                have qb := BA.ok_is hbo
                have ob := sl_out qb
                have tb := (sl_one qb).2
                have hix := fun H => but_idx HV1.out hbk (by rw [cb]; rfl) H
                have hin := fun H => int_idx39 HV6.out (n := (n : Int)) (k := k) (by rw [List.getElem?_map, hn]; rfl) H
                have hn12 := HNR.out n (List.mem_of_getElem? hn)
                have k74 := H74.out rfl n hn12.2
                obtain ⟨p1, p2, p3, p4, p5⟩ := suit_pts (HSU.out b (List.mem_of_getElem? hbk))
                have hss := suit_small (HSU.out b (List.mem_of_getElem? hbk))
                obtain ⟨_, _, n1, n2⟩ := truth_of HM2.out
                have h200 := moved200 H20.out (num_small n1 n) (num_small n2 n)
                have hml : (movedL st (xs.getD n 0) (ys.getD n 0)).length = st.length := by simp [movedL]
                have hmv : slV ptC (slN ((movedL st (xs.getD n 0) (ys.getD n 0)).map ptC.enc)) = some (movedL st (xs.getD n 0) (ys.getD n 0)) := slV_slN (by rw [hml]; have := HMS.out.2.1; unfold maxL; omega)
                have omv := sl_out hmv
                have tmv := (sl_one hmv).2
                have cmv := (slV_is hmv).1.cells
                have lmv := sl_len hmv
                rw [hml] at lmv
                have k76 := fun h => K76 (X := dX c17) rfl _ b.ha _ b.holes b.err hmv qb ⟨by rw [hml]; exact hss.2.2.1.symm, by have := hss.2.2.1; have := hss.2.2.2.1; omega, by have := hss.2.2.1; have := hss.2.2.2.2.1; omega⟩ h200 p2 p3 p4 h
                have hd : decide ((k : Int) < (l.length : Int)) = true := by simpa using hlt
                have hw := wrap_succ hlt (show l.length <= maxL by have := HL3.out; unfold maxL; omega)
                have hnx : drlB b.err (movedL st (xs.getD n 0) (ys.getD n 0)) b.holes = true -> ∀ (j : Nat) (b' : BA) (n' : Nat), j < k + 1 -> l[j]? = some b' -> ns[j]? = some n' -> drlB b'.err (movedL st (xs.getD n' 0) (ys.getD n' 0)) b'.holes = true := fun q j b' n' hj h1 h2 => by
                  rcases Nat.lt_or_ge j k with c | c
                  · exact HDR.out j b' n' c h1 h2
                  · obtain rfl : j = k := by omega
                    rw [hbk] at h1
                    rw [hn] at h2
                    cases h1
                    cases h2
                    exact q
                have HNX := Lib.hid hnx
                have sne : ((st.length : Int) != (st.length : Int)) = false := by simp
                have HK74 := Lib.hid (k74 ⟨qn, qm⟩)
                have HK76 := Lib.hid (k76 ⟨qn, qm⟩)
                simp only [AV.cells] at cb cmv
                simp only [isTuple] at tb tmv
                clear hbk hn hbo qb hn12 k74 p1 p2 p3 p4 p5 hss n1 n2 h200 hml hmv k76 hnx
                generalize drlB b.err (movedL st (xs.getD n 0) (ys.getD n 0)) b.holes = dr at *
                generalize slN ((movedL st (xs.getD n 0) (ys.getD n 0)).map ptC.enc) = mv at *
                cases dr with
                | true =>
                  repeat' (first | (apply W.drawQ (id := 25) (l1 := [0, 1, 2, 3, 4, 5, 6, 7, 8, 9, 10, 11]) (l2 := []); kernel_rfl; kernel_rfl; kernel_rfl; exact Z4) | refine go1 ?_ | (apply U6; exact Z1; exact Z1; (focus (simp only [List.nil_append, List.append_nil]; first | exact HK74.out | exact HK76.out)); simp only [pM, pN, rR, rP]) | refine go2 (fun hh => ?_) (fun hh => ?_) | fail)
                  refine ⟨hlt, _, _, rfl, HNX.out rfl, ?_, ?_, ?_, ?_, ?_, ?_, ?_, ?_, ?_, by omega⟩
                  all_goals exact Z2
                | false =>
                  repeat' (first | (apply W.drawQ (id := 25) (l1 := [0, 1, 2, 3, 4, 5, 6, 7, 8, 9, 10, 11]) (l2 := []); kernel_rfl; kernel_rfl; kernel_rfl; exact Z4) | refine go1 ?_ | (apply U6; exact Z1; exact Z1; (focus (simp only [List.nil_append, List.append_nil]; first | exact HK74.out | exact HK76.out | exact k25 _)); simp only [pM, pN, rR, rP]) | refine go2 (fun hh => ?_) (fun hh => ?_) | fail)
                  all_goals (simp only [resV_def (X := dX c17) Tryz.func17, Tryz.results17]; first | exact J5 | refine J6 ?_)
              · have hd : decide ((k : Int) < (l.length : Int)) = false := by simpa using hlt
                obtain ⟨z1, z2⟩ := HFIN.out rfl (fun j b n h1 h2 => HDR.out j b n (by have := (List.getElem?_eq_some_iff.1 h1).1; omega) h1 h2)
                first
                  | exact absurd (z1.symm.trans HEV.out) (by decide)
                  | (rw [z2] at k37
                     clear hlt hk z1 z2
                     repeat' (first | refine goS ?_ | (apply U6; exact Z1; exact Z1; (focus (simp only [List.nil_append, List.append_nil]; first | exact k37 _ | exact k25 _)); simp only [pM, pN, rR, rP]) | refine go2 (fun hh => ?_) (fun hh => ?_) | fail)
                     all_goals (simp only [resV_def (X := dX c17) Tryz.func17, Tryz.results17]; first | exact J5 | refine J6 ?_)))
    · have hd : machB st cx cy wx wy rs = false \/ (machB st cx cy wx wy rs = true /\ truthB xs ys = false) \/ (machB st cx cy wx wy rs = true /\ truthB xs ys = true /\ ((l.length : Int) == 0) = true) \/ (machB st cx cy wx wy rs = true /\ truthB xs ys = true /\ ((l.length : Int) == 0) = false /\ decide ((l.length : Int) > 3) = true) \/ (machB st cx cy wx wy rs = true /\ truthB xs ys = true /\ ((l.length : Int) == 0) = false /\ decide ((l.length : Int) > 3) = false /\ ((bs.length : Int) != (l.length : Int)) = true) := by
        generalize machB st cx cy wx wy rs = c1 at hall ⊢
        generalize truthB xs ys = c2 at hall ⊢
        generalize ((l.length : Int) == 0) = c3 at hall ⊢
        generalize decide ((l.length : Int) > 3) = c4 at hall ⊢
        generalize ((bs.length : Int) != (l.length : Int)) = c5 at hall ⊢
        clear k38 k48 k70 k71 k72
        revert hall
        cases c1 <;> cases c2 <;> cases c3 <;> cases c4 <;> cases c5 <;> simp
      clear hl hr hla hx hy hba hp1 hp2 hp3 hp4 v1 v2 v3 v4 v5 v6 ga gb gc g1 g2 g3 g4 ht6 hok hall hg
      generalize machB st cx cy wx wy rs = c1 at *
      generalize truthB xs ys = c2 at *
      refine ClR.walk (c := _) rfl Tryz.func17 rfl (by kernel_rfl) rfl isRet_fail ?_
      simp only [entryEnv, Nat.reduceAdd, emptyHp]
      rcases hd with rfl | ⟨rfl, rfl⟩ | ⟨rfl, rfl, y3⟩ | ⟨rfl, rfl, y3, y4⟩ | ⟨rfl, rfl, y3, y4, y5⟩
      all_goals (
        repeat' (first | refine goS ?_ | (apply U6; exact Z1; exact Z1; (focus (simp only [List.nil_append, List.append_nil]; first | exact k38 _ | exact k48 _ | exact k70 _ | exact k71 _ | exact k72 _ | exact k25 _)); simp only [pM, pN, rR, rP]) | refine go2 (fun hh => ?_) (fun hh => ?_) | fail)
        all_goals (simp only [resV_def (X := dX c17) Tryz.func17, Tryz.results17]; first | exact J5 | refine J6 ?_))
  · have hd : (decide ((st.length : Int) <= 6) && decide ((rs.length : Int) <= 6)) = false \/ ((decide ((st.length : Int) <= 6) && decide ((rs.length : Int) <= 6)) = true /\ btnsB l = false) \/ ((decide ((st.length : Int) <= 6) && decide ((rs.length : Int) <= 6)) = true /\ btnsB l = true /\ (decide ((xs.length : Int) <= 15) && decide ((ys.length : Int) <= 15)) = false) \/ ((decide ((st.length : Int) <= 6) && decide ((rs.length : Int) <= 6)) = true /\ btnsB l = true /\ (decide ((xs.length : Int) <= 15) && decide ((ys.length : Int) <= 15)) = true /\ decide ((bs.length : Int) > 5) = true) := by
      generalize (decide ((st.length : Int) <= 6) && decide ((rs.length : Int) <= 6)) = c1 at gs ⊢
      generalize btnsB l = c2 at gs ⊢
      generalize (decide ((xs.length : Int) <= 15) && decide ((ys.length : Int) <= 15)) = c3 at gs ⊢
      generalize decide ((bs.length : Int) > 5) = c4 at gs ⊢
      clear k38 k48 k70
      revert gs
      cases c1 <;> cases c2 <;> cases c3 <;> cases c4 <;> simp
    clear hl hr hla hx hy hba hp1 hp2 hp3 hp4 gs hg
    generalize (decide ((st.length : Int) <= 6) && decide ((rs.length : Int) <= 6)) = c1 at *
    generalize btnsB l = c2 at *
    generalize (decide ((xs.length : Int) <= 15) && decide ((ys.length : Int) <= 15)) = c3 at *
    refine ClR.walk (c := _) rfl Tryz.func17 rfl (by kernel_rfl) rfl isRet_fail ?_
    simp only [entryEnv, Nat.reduceAdd, emptyHp]
    rcases hd with rfl | ⟨rfl, rfl⟩ | ⟨rfl, rfl, rfl⟩ | ⟨rfl, rfl, rfl, y4⟩
    all_goals (
      repeat' (first | refine goS ?_ | (apply U6; exact Z1; exact Z1; (focus (simp only [List.nil_append, List.append_nil]; first | exact k38 _ | exact k48 _ | exact k70 _ | exact k25 _)); simp only [pM, pN, rR, rP]) | refine go2 (fun hh => ?_) (fun hh => ?_) | fail)
      all_goals (simp only [resV_def (X := dX c17) Tryz.func17, Tryz.results17]; first | exact J5 | refine J6 ?_))
end Go.AM
