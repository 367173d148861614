/-
  A part of the proof: contracts of functions.
-/
import Derived.Test.YtlhcjccaimmhgaaGreatDoorUAP
import Derived.Test.YtlhcjccaimmhgaaGreatDoorUAM
import Derived.Test.YtlhcjccaimmhgaaGreatDoorUAK
import Derived.Test.YtlhcjccaimmhgaaGreatDoorUAF
import Derived.Test.YtlhcjccaimmhgaaGreatDoorUAO
import Derived.Test.YtlhcjccaimmhgaaGreatDoorUAG
set_option linter.unusedSectionVars false
set_option linter.unusedVariables false
set_option linter.unusedSimpArgs false
set_option maxRecDepth 100000
namespace Go.AM
open Go Go.Proofs
variable [Keep]
attribute [local irreducible] W WO WO1 WD WQ WT thenQ blockQ endR isRet retK Cl ClR
attribute [local irreducible] axisV bothV
theorem rep_next (k : Nat) : (List.replicate k wideS).map spC.enc ++ [.agg [.int .i64 (-1000), .int .i64 1000]] = (List.replicate (k + 1) wideS).map spC.enc := by
 rw [List.replicate_succ']
 simp [spC, wideS]
set_option maxHeartbeats 4000000 in
theorem F105 : IntrFn Tryz.prog 105 (pureFn sp105) := by
 refine pure_fn (X := dX cW) cW_sound p105 ?_
 intro args v h
 unfold sp105 at h
 split at h
 ·rename_i sa cxl cxh cyl cyh wxl wxh wyl wyh ra ma
  split at h
  ·rename_i st rs ms hl hr hm
   split at h
   ·rename_i hbl
    have h := Option.some.inj h
    subst h
    have hlen := sl_len hm
    have hout := sl_out hm
    have hmax := sl_max hm
    have hout2 := sl_out hl
    have hout3 := sl_out hr
    obtain ⟨x, p, y, q, hax, hay, hv, _, _, hox, hoy, hfx, hfy, htx, hty⟩ := bothV_is ⟨cxl, cxh⟩ ⟨cyl, cyh⟩ ⟨wxl, wxh⟩ ⟨wyl, wyh⟩ ms
    rw [hv]
    have HAX := Lib.hid hax
    have HAY := Lib.hid hay
    have HBL := Lib.hid hbl
    clear hv hl hr hbl hax hay
    refine ClR.walk (c := _) rfl Tryz.func105 rfl (by kernel_rfl) rfl isRet_fail ?_
    simp only [entryEnv, Nat.reduceAdd]
    repeat' (first | refine goS ?_ | refine go2 (fun hh => ?_) (fun hh => ?_) | fail)
    refine W.loopN 13 (fun k F => ∃ e lm hp ux uy, F = Fr.mk 105 false e lm hp [] none ∧ Blt hp ux 2 ((List.replicate k wideS).map spC.enc) ∧ Blt hp uy 2 ((List.replicate k wideS).map spC.enc) ∧ Sep ux uy ∧
     lm.get 2 = some (0, [sa, .int .i64 cxl, .int .i64 cxh, .int .i64 cyl, .int .i64 cyh, .int .i64 wxl, .int .i64 wxh, .int .i64 wyl, .int .i64 wyh, ra]) ∧ e.get 2 = some (.lptr 2 0 0) ∧ e.get 1 = some ma ∧ e.get 7 = some ux ∧ e.get 8 = some uy ∧ e.get 9 = some (.int .i64 ↑k) ∧ k ≤ 13) ?_ ?_
    ·refine ⟨_, _, _, _, _, rfl, Blt.nil, Blt.nil, Sep.nil _, ?_, ?_, ?_, ?_, ?_, ?_, ?_⟩ <;> first | exact Z2 | simp [go_sem, *]
    rintro k F ⟨e, lm, hp, ux, uy, rfl, hBx, hBy, hSep, hl2, h2, h1, h7, h8, h9, hk⟩
    have hbox := hBx.out
    have hboy := hBy.out
    by_cases hlt : k < 13
    ·have hd : decide ((k : Int) ≤ 12) = true := by simp; omega
     have hw := wrap_succ hlt (by unfold maxL; omega)
     have hll : ((List.replicate k wideS).map spC.enc).length + 1 ≤ most := by simp only [List.length_map, List.length_replicate]; unfold most; omega
     repeat' (first | (apply WO1.appendE (t := 146) (u := 146) (e := 48) (e' := 48) (sz := 2) (tl := []) (hb := hBx); exact Z1; exact rfl; exact Z2; exact Z2; exact Z2; (focus (exact ty_row146)); exact Z1; (focus (intro v hv; simp at hv; rcases hv with rfl | rfl <;> rfl)); (focus (simp only [List.length_cons, List.length_nil]; exact hll)); (focus (simp)); (intro vx hx1 hBx1 hox1 hKx1 hEx1; have hBy1 := hBy.apart hKx1 hSep; simp only [pM, pN])) | (apply WO1.appendE (t := 146) (u := 146) (e := 48) (e' := 48) (sz := 2) (tl := []) (hb := hBy1); exact Z1; exact rfl; exact Z2; exact Z2; exact Z2; (focus (exact ty_row146)); exact Z1; (focus (intro v hv; simp at hv; rcases hv with rfl | rfl <;> rfl)); (focus (simp only [List.length_cons, List.length_nil]; exact hll)); (focus (simp)); (intro vy hy1 hBy2 hoy1 hKy1 hEy1; simp only [pM, pN])) | refine go1 ?_ | refine go2 (fun hh => ?_) (fun hh => ?_) | fail)
     refine ⟨hlt, _, _, _, vx, vy, rfl, ?_, ?_, ?_, ?_, ?_, ?_, ?_, ?_, ?_, by omega⟩
     ·rw [← rep_next]
      refine hBx1.apart hKy1 (Sep.symm ?_)
      rw [hEx1]
      exact Sep.new hBy (Nat.le_refl _) _
     ·rw [← rep_next]
      exact hBy2
     ·refine Sep.symm ?_
      rw [hEy1]
      exact Sep.new hBx1 (Nat.le_refl _) _
     all_goals exact Z2
    ·have hd : decide ((k : Int) ≤ 12) = false := by simp; omega
     have hk13 : k = 13 := by omega
     subst hk13
     have hne : (List.replicate 13 wideS).map spC.enc ≠ [] := by simp
     obtain ⟨idx, hux, hgx, hidx⟩ : ∃ id, ux = .row id 0 13 ∧ hp.get id = some (.rw 2 (initS.map spC.enc)) ∧ id < hp.next := by
      rcases hBx with ⟨_, e⟩ | ⟨id, q1, q2, q3, _⟩
      ·exact absurd e hne
      ·exact ⟨id, by simpa using q1, q2, q3⟩
     obtain ⟨idy, huy, hgy, hidy⟩ : ∃ id, uy = .row id 0 13 ∧ hp.get id = some (.rw 2 (initS.map spC.enc)) ∧ id < hp.next := by
      rcases hBy with ⟨_, e⟩ | ⟨id, q1, q2, q3, _⟩
      ·exact absurd e hne
      ·exact ⟨id, by simpa using q1, q2, q3⟩
     have hxy : idx ≠ idy := fun e => hSep idx 0 13 0 13 hux (by rw [huy, e])
     have HXY := Lib.hid hxy
     have HGX := Lib.hid hgx
     have HGY := Lib.hid hgy
     subst hux huy
     clear hne hBx hBy hSep hxy hgx hgy hlt hk
     repeat' (first | refine goS ?_ | refine go2 (fun hh => ?_) (fun hh => ?_) | fail)
     refine W.loopN ms.length (fun j F => ∃ e lm hp cx cy, F = Fr.mk 105 false e lm hp [] none ∧ ownS (·.x) (ms.drop j) cx = ownS (·.x) ms initS ∧ ownS (·.y) (ms.drop j) cy = ownS (·.y) ms initS ∧ cx.length = 13 ∧ cy.length = 13 ∧
      hp.get idx = some (.rw 2 (cx.map spC.enc)) ∧ hp.get idy = some (.rw 2 (cy.map spC.enc)) ∧ lm.get 2 = some (0, [sa, .int .i64 cxl, .int .i64 cxh, .int .i64 cyl, .int .i64 cyh, .int .i64 wxl, .int .i64 wxh, .int .i64 wyl, .int .i64 wyh, ra]) ∧
      e.get 2 = some (.lptr 2 0 0) ∧ e.get 1 = some ma ∧ e.get 7 = some (.row idx 0 13) ∧ e.get 8 = some (.row idy 0 13) ∧ e.get 10 = some (.int .i64 ↑j) ∧ j ≤ ms.length) ?_ ?_
     ·refine ⟨_, _, _, initS, initS, rfl, rfl, rfl, rfl, rfl, HGX.out, HGY.out, ?_, ?_, ?_, ?_, ?_, ?_, ?_⟩ <;> first | exact Z2 | simp [go_sem, *]
     clear hl2 h2 h1 h7 h8 h9 hd hbox hboy HGX HGY hidx hidy
     rintro j F ⟨e, lm, hp, cx, cy, rfl, hcx, hcy, hnx, hny, hgx, hgy, hl2, h2, h1, h7, h8, h10, hj⟩
     have HCX := Lib.hid hcx
     have HCY := Lib.hid hcy
     have HNX := Lib.hid hnx
     have HNY := Lib.hid hny
     clear hcx hcy hnx hny
     by_cases hjt : j < ms.length
     ·obtain ⟨m, hm'⟩ := get_some hjt
      have hix := mark_idx hm hm'
      have hdr : ms.drop j = m :: ms.drop (j + 1) := by
       rw [List.drop_eq_getElem_cons hjt]
       rw [List.getElem?_eq_getElem hjt] at hm'
       rw [Option.some.inj hm']
      have hmb : blkB m = true := List.all_eq_true.1 HBL.out m (List.mem_of_getElem? hm')
      simp only [blkB, inB, Bool.and_eq_true, decide_eq_true_eq] at hmb
      obtain ⟨n, hn⟩ : ∃ n : Nat, m.b = n := ⟨m.b.toNat, by omega⟩
      have hn13 : n < 13 := by omega
      obtain ⟨px, hpx⟩ := get_some (show n < cx.length by rw [HNX.out]; omega)
      obtain ⟨py, hpy⟩ := get_some (show n < cy.length by rw [HNY.out]; omega)
      have hrx := row_at hpx
      have hry := row_at hpy
      have hixx := row_idx hn13 hgx
      have hixy := row_idx hn13 hgy
      have hgy' : ∀ b, (hp.put idx b).get idy = some (.rw 2 (cy.map spC.enc)) := fun b => by
       have h := HXY.out
       rw [← hgy]
       simp [Heap.get, Heap.put, h]
      have hixy' : ∀ b, indexAddrV Tryz.prog (hp.put idx b) 146 (.row idy 0 13) (.int .i64 ↑n) = some (.eptr idy 2 n 0) := fun b => row_idx hn13 (hgy' b)
      have hd : decide ((j : Int) < (ms.length : Int)) = true := by simpa using hjt
      have hw := wrap_succ hjt hmax
      have hnx : ownS (·.x) (ms.drop (j + 1)) (cx.set n (interS px m.x)) = ownS (·.x) ms initS := by
       rw [← HCX.out, hdr]
       have : m.b.toNat = n := by omega
       simp only [ownS, this, getD_of hpx]
      have hny : ownS (·.y) (ms.drop (j + 1)) (cy.set n (interS py m.y)) = ownS (·.y) ms initS := by
       rw [← HCY.out, hdr]
       have : m.b.toNat = n := by omega
       simp only [ownS, this, getD_of hpy]
      have HX := Lib.hid hnx
      have HY := Lib.hid hny
      rw [hn] at hix
      clear hm hm' hdr hmb hpx hpy hnx hny hn
      repeat' (first | (apply W.drawQ (id := 10) (l1 := [0, 1, 2, 3, 4, 5, 6, 7, 8, 9, 10, 11, 12, 13, 14, 15, 16, 17, 18, 19, 20, 21, 22, 23, 24]) (l2 := [25, 26, 27]); kernel_rfl; kernel_rfl; kernel_rfl; exact Z4) | refine go1 ?_ | (apply U6; exact Z1; exact Z1; (focus (simp only [List.nil_append, List.append_nil]; first | exact K158 rfl _ _ _ _ _)); simp only [pM, pN, rR, rP]) | refine go2 (fun hh => ?_) (fun hh => ?_) | fail)
      refine ⟨hjt, _, _, _, cx.set n (interS px m.x), cy.set n (interS py m.y), rfl, HX.out, HY.out, ?_, ?_, ?_, ?_, ?_, ?_, ?_, ?_, ?_, ?_, by omega⟩
      ·rw [List.length_set]; exact HNX.out
      ·rw [List.length_set]; exact HNY.out
      ·have h := HXY.out
       simp [Heap.get, Heap.put, List.map_set, spC, asElem, isAggV, interS, h, Ne.symm h]
      ·have h := HXY.out
       simp [Heap.get, Heap.put, List.map_set, spC, asElem, isAggV, interS, h, Ne.symm h]
      all_goals exact Z2
     ·have hd : decide ((j : Int) < (ms.length : Int)) = false := by simpa using hjt
      have hjl : j = ms.length := by omega
      have hcx : cx = ownS (·.x) ms initS := by
       have := HCX.out
       rw [hjl, List.drop_length] at this
       exact this
      have hcy : cy = ownS (·.y) ms initS := by
       have := HCY.out
       rw [hjl, List.drop_length] at this
       exact this
      have hX : ∀ H : Heap, H.get idx = some (.rw 2 (cx.map spC.enc)) → Cl (dX cW) 159 [.agg [.int .i64 cxl, .int .i64 cxh], .agg [.int .i64 wxl, .int .i64 wxh], .row idx 0 13] H (.ret (.tuple [x, .bool p]) H none) := fun H hg => by
       have := K159 (X := dX cW) rfl ⟨cxl, cxh⟩ ⟨wxl, wxh⟩ cx idx H hg HNX.out
       rw [hcx, HAX.out] at this
       exact this
      have hY : ∀ H : Heap, H.get idy = some (.rw 2 (cy.map spC.enc)) → Cl (dX cW) 159 [.agg [.int .i64 cyl, .int .i64 cyh], .agg [.int .i64 wyl, .int .i64 wyh], .row idy 0 13] H (.ret (.tuple [y, .bool q]) H none) := fun H hg => by
       have := K159 (X := dX cW) rfl ⟨cyl, cyh⟩ ⟨wyl, wyh⟩ cy idy H hg HNY.out
       rw [hcy, HAY.out] at this
       exact this
      have HX := Lib.hid hX
      have HY := Lib.hid hY
      clear hX hY hcx hcy hjl hm
      repeat' (first | refine goS ?_ | (apply U6; exact Z1; exact Z1; (focus (simp only [List.nil_append, List.append_nil]; first | exact HX.out _ (by simp only [go_sem, *, Nat.reduceLT, Int.reduceEq, Int.reduceBEq, Int.reduceLE, Int.reduceLT, Nat.reduceAdd, Nat.reduceBEq, Nat.reduceEqDiff, reduceIte, Nat.reduceLeDiff, Nat.reduceMul, Nat.reduceSub, reduceCtorEq]) | exact HY.out _ (by simp only [go_sem, *, Nat.reduceLT, Int.reduceEq, Int.reduceBEq, Int.reduceLE, Int.reduceLT, Nat.reduceAdd, Nat.reduceBEq, Nat.reduceEqDiff, reduceIte, Nat.reduceLeDiff, Nat.reduceMul, Nat.reduceSub, reduceCtorEq]))); simp only [pM, pN, rR, rP]) | refine go2 (fun hh => ?_) (fun hh => ?_) | fail)
      all_goals (simp only [resV_def (X := dX cW) Tryz.func105, Tryz.results105]; first | exact J5 | refine J6 ?_)
      all_goals simp [*]
   ·cases h
  ·cases h
 ·cases h
end Go.AM
namespace Go.AM
open Go
variable [Keep]
theorem interW {x : Sp} (h1 : -1000 ≤ x.lo) (h2 : x.hi ≤ 1000) : interS wideS x = x :=
 Sp.ext2 (by rw [interS_lo]; simp only [wideS]; omega) (by rw [interS_hi]; simp only [wideS]; omega)
def limOf (sel : Held → Sp) (m : Held) : Lim := ⟨m.b, (sel m).lo, (sel m).hi⟩
theorem own_get (sel : Held → Sp) (k : Nat) : ∀ (ms : List Held) (o : List Sp), k < o.length → (∀ m ∈ ms, 0 ≤ m.b) → (ownS sel ms o).getD k ⟨0, 0⟩ = allS k (ms.map (limOf sel)) (o.getD k ⟨0, 0⟩) := by
 intro ms
 induction ms with
 | nil => intro o _ _; rfl
 | cons m r ih =>
  intro o hk hb
  have hm := hb m (by simp)
  simp only [ownS, List.map_cons, allS]
  rw [ih _ (by simpa using hk) (fun m' h' => hb m' (by simp [h']))]
  by_cases e : m.b = (k : Int)
  ·have hn : m.b.toNat = k := by omega
   have h1 : ((limOf sel m).b == (k : Int)) = true := by simp [limOf, e]
   rw [if_pos h1, hn]
   rw [getD_set_same hk]
   rfl
  ·have hn : m.b.toNat ≠ k := by omega
   have h1 : ¬ ((limOf sel m).b == (k : Int)) = true := by simp [limOf, e]
   rw [if_neg h1]
   rw [getD_set_ne hn]
theorem onR_lim (c w : Sp) (L : List Lim) (l : List Sp) : ∀ n, onR ⟨c, w, []⟩ n l = onR ⟨c, w, L⟩ n l := by
 intro n
 induction n with
 | zero => rfl
 | succ n ih =>
  simp only [onR]
  rw [ih]
  rfl
theorem backS_lim (c w : Sp) (L : List Lim) : ∀ n (l : List Sp), backS ⟨c, w, []⟩ n l = backS ⟨c, w, L⟩ n l := by
 intro n
 induction n with
 | zero => intro l; rfl
 | succ n ih =>
  intro l
  simp only [backS]
  rw [ih]
  rfl
theorem on_own (ax : Ax) (own : List Sp) (h13 : own.length = 13) (hown : ∀ k, k < 13 → own.getD k ⟨0, 0⟩ = allS k ax.limits wideS) (hc : -1000 ≤ ax.chuck.lo ∧ ax.chuck.hi ≤ 1000)
  (hn : ∀ k, k < 12 → -1000 ≤ (nxtS ax (onS ax k)).lo ∧ (nxtS ax (onS ax k)).hi ≤ 1000) : ∀ n, n ≤ 12 → (∀ j, j ≤ n → (onR ax n own).getD j ⟨0, 0⟩ = onS ax j) ∧ (∀ j, n < j → (onR ax n own).getD j ⟨0, 0⟩ = own.getD j ⟨0, 0⟩) := by
 intro n
 induction n with
 | zero =>
  intro _
  refine ⟨fun j hj => ?_, fun j hj => ?_⟩
  ·have : j = 0 := by omega
   subst this
   simp only [onR]
   rw [getD_set_same (by omega), hown 0 (by omega), allS_inter, interW hc.1 hc.2]
   rfl
  ·simp only [onR]
   rw [getD_set_ne (by omega)]
 | succ n ih =>
  intro hn12
  obtain ⟨h1, h2⟩ := ih (by omega)
  refine ⟨fun j hj => ?_, fun j hj => ?_⟩
  ·by_cases e : j = n + 1
   ·subst e
    have hl : (onR ax n own).length = 13 := by rw [onR_len, h13]
    have : (onR ax (n + 1) own).getD (n + 1) ⟨0, 0⟩ = interS ((onR ax n own).getD (n + 1) ⟨0, 0⟩) (nxtS ax ((onR ax n own).getD n ⟨0, 0⟩)) := by
     simp only [onR]
     rw [getD_set_same (by omega)]
    rw [this, h2 (n + 1) (by omega), h1 n (Nat.le_refl _), hown (n + 1) (by omega), allS_inter]
    obtain ⟨b1, b2⟩ := hn n (by omega)
    rw [interW b1 b2]
    rfl
   ·have : (onR ax (n + 1) own).getD j ⟨0, 0⟩ = (onR ax n own).getD j ⟨0, 0⟩ := by
     simp only [onR]
     rw [getD_set_ne (fun e' => e e'.symm)]
    rw [this, h1 j (by omega)]
  ·have : (onR ax (n + 1) own).getD j ⟨0, 0⟩ = (onR ax n own).getD j ⟨0, 0⟩ := by
    simp only [onR]
    rw [getD_set_ne (by omega)]
   rw [this, h2 j (by omega)]
def axO : Option (List Sp) → AV
 | none => .tuple [.nilslice, .bool false]
 | some t => .tuple [slN (t.map spC.enc), .bool true]
structure Good (c w : Sp) (L : List Lim) : Prop where
 c1 : -12 ≤ c.lo
 c2 : c.lo ≤ c.hi
 c3 : c.hi ≤ 12
 w1 : -3 ≤ w.lo
 w2 : w.lo ≤ w.hi
 w3 : w.hi ≤ 3
 l : ∀ m ∈ L, -104 ≤ m.lo ∧ m.lo ≤ 104 ∧ -104 ≤ m.hi ∧ m.hi ≤ 104
theorem allS_bd (b A B : Int) (hB : 104 ≤ B) (hA : A ≤ 104) : ∀ (L : List Lim) (s : Sp), (∀ m ∈ L, -104 ≤ m.lo ∧ m.lo ≤ 104 ∧ -104 ≤ m.hi ∧ m.hi ≤ 104) → A ≤ s.lo ∧ s.lo ≤ B ∧ -B ≤ s.hi ∧ s.hi ≤ -A →
  A ≤ (allS b L s).lo ∧ (allS b L s).lo ≤ B ∧ -B ≤ (allS b L s).hi ∧ (allS b L s).hi ≤ -A := by
 intro L
 induction L with
 | nil => intro s _ h; exact h
 | cons m r ih =>
  intro s hL h
  simp only [allS]
  split
  ·refine ih _ (fun m' h' => hL m' (by simp [h'])) ?_
   have := hL m (by simp)
   simp only [interS_lo, interS_hi, Lim.sp]
   omega
  ·exact ih _ (fun m' h' => hL m' (by simp [h'])) h
theorem nxt_small {c w : Sp} {L : List Lim} (g : Good c w L) {s : Sp} {A B : Int} (hA : -1000 ≤ A) (hB : B ≤ 1000) (h : A ≤ s.lo ∧ s.lo ≤ B ∧ -B ≤ s.hi ∧ s.hi ≤ -A) :
  (nxtS ⟨c, w, L⟩ s).lo = s.lo + w.lo ∧ (nxtS ⟨c, w, L⟩ s).hi = s.hi + w.hi := by
 have g1 := g.w1
 have g2 := g.w2
 have g3 := g.w3
 show w64 (s.lo + w.lo) = _ ∧ w64 (s.hi + w.hi) = _
 exact ⟨wrap_small (by omega) (by omega), wrap_small (by omega) (by omega)⟩
theorem on_bd {c w : Sp} {L : List Lim} (g : Good c w L) : ∀ k : Nat, k ≤ 13 → -12 - 3 * (k : Int) ≤ (onS ⟨c, w, L⟩ k).lo ∧ (onS ⟨c, w, L⟩ k).lo ≤ 104 + 3 * (k : Int) ∧ -(104 + 3 * (k : Int)) ≤ (onS ⟨c, w, L⟩ k).hi ∧ (onS ⟨c, w, L⟩ k).hi ≤ -(-12 - 3 * (k : Int)) := by
 intro k
 induction k with
 | zero =>
  intro _
  have := g.c1
  have := g.c2
  have := g.c3
  exact allS_bd _ _ _ (by omega) (by omega) L c g.l (by omega)
 | succ k ih =>
  intro hk
  have h := ih (by omega)
  obtain ⟨e1, e2⟩ := nxt_small g (by omega) (by omega) h
  have := g.w1
  have := g.w2
  have := g.w3
  refine allS_bd _ _ _ (by omega) (by omega) L (nxtS ⟨c, w, L⟩ (onS ⟨c, w, L⟩ k)) g.l ?_
  rw [e1, e2]
  omega
theorem axis_ref {c w : Sp} {L : List Lim} (g : Good c w L) (own : List Sp) (h13 : own.length = 13) (hown : ∀ k, k < 13 → own.getD k ⟨0, 0⟩ = allS k L wideS) : axisV ⟨c, w, []⟩ own = axO (boundsS ⟨c, w, L⟩) := by
 have hc1 := g.c1
 have hc2 := g.c2
 have hc3 := g.c3
 have hw2 := g.w2
 have hw1 := g.w1
 have hw3 := g.w3
 have hnx : ∀ k : Nat, k < 12 → (nxtS ⟨c, w, L⟩ (onS ⟨c, w, L⟩ k)).lo = (onS ⟨c, w, L⟩ k).lo + w.lo ∧ (nxtS ⟨c, w, L⟩ (onS ⟨c, w, L⟩ k)).hi = (onS ⟨c, w, L⟩ k).hi + w.hi :=
  fun k hk => nxt_small g (by omega) (by omega) (on_bd g k (by omega))
 have hb := bounds_ref ⟨c, w, L⟩ (by simp [empS]; omega) (fun k hk he => by
  obtain ⟨e1, e2⟩ := hnx k hk
  simp only [empS, decide_eq_false_iff_not] at *
  rw [e1, e2]
  omega)
 obtain ⟨o1, _⟩ := on_own ⟨c, w, L⟩ own h13 hown (show -1000 ≤ c.lo ∧ c.hi ≤ 1000 by omega) (fun k hk => by
  obtain ⟨e1, e2⟩ := hnx k hk
  have := on_bd g k (by omega)
  rw [e1, e2]
  omega) 12 (Nat.le_refl _)
 have hlist : onR ⟨c, w, L⟩ 12 own = (List.range 13).map (onS ⟨c, w, L⟩) := by
  apply List.ext_getElem
  ·rw [onR_len, h13]; simp
  ·intro j h1 h2
   have hj : j < 13 := by simpa using h2
   have := o1 j (by omega)
   simp only [List.getD, List.getElem?_eq_getElem h1, Option.getD_some] at this
   rw [this]
   simp
 rw [hb]
 unfold axisV refS lookS
 rw [onR_lim c w L, backS_lim c w L, hlist]
 split <;> rfl
theorem lims_155 (rs : List Rdg) : (marksOf rs).map (limOf (·.x)) = lims155 rs := by simp [marksOf, lims155, limOf]
theorem lims_156 (rs : List Rdg) : (marksOf rs).map (limOf (·.y)) = lims156 rs := by simp [marksOf, lims156, limOf]
theorem span_of {lo hi a b wide : Int} (h : spanB lo hi a b wide = true) : a ≤ lo ∧ lo ≤ hi ∧ hi ≤ b := by
 simp only [spanB, Bool.and_eq_true, decide_eq_true_eq] at h
 omega
theorem rdg_of {p : Rdg} (h : okRdg p = true) : 0 ≤ p.b ∧ p.b ≤ 12 ∧ -80 ≤ p.x ∧ p.x ≤ 80 ∧ -80 ≤ p.y ∧ p.y ≤ 80 ∧ 0 ≤ p.err ∧ p.err ≤ 4 := by
 have e : w64 (-80) = -80 := rfl
 simp only [okRdg, okPt, inB, e, Bool.and_eq_true, decide_eq_true_eq] at h
 omega
theorem init_get {k : Nat} (hk : k < 13) : initS.getD k ⟨0, 0⟩ = wideS := by
 unfold initS
 rw [List.getD, List.getElem?_replicate, if_pos hk]
 rfl
section
variable {st : List Pt} {cx cy wx wy : Sp} {rs : List Rdg} (h : machB st cx cy wx wy rs = true)
include h
theorem mach_rdg : ∀ p ∈ rs, okRdg p = true := by
 intro p hp
 simp only [machB, Bool.and_eq_true] at h
 have := h.2
 simp only [Bool.not_eq_true'] at this
 have := List.any_eq_false.1 this p hp
 simpa using this
theorem good_x : Good cx wx (lims155 rs) := by
 have e1 : w64 (-12) = -12 := rfl
 have e2 : w64 (-3) = -3 := rfl
 have hr := mach_rdg h
 simp only [machB, Bool.and_eq_true, e1, e2] at h
 have h1 := span_of h.1.1.1.1.1.2
 have h2 := span_of h.1.1.1.2
 refine ⟨h1.1, h1.2.1, h1.2.2, h2.1, h2.2.1, h2.2.2, fun m hm => ?_⟩
 obtain ⟨p, hp, rfl⟩ := List.mem_map.1 hm
 have := rdg_of (hr p hp)
 have a1 : w64 (p.x - p.err) = p.x - p.err := wrap_small (by omega) (by omega)
 have a2 : w64 (p.x + p.err) = p.x + p.err := wrap_small (by omega) (by omega)
 simp only [a1, a2]
 omega
theorem good_y : Good cy wy (lims156 rs) := by
 have e1 : w64 (-12) = -12 := rfl
 have e2 : w64 (-3) = -3 := rfl
 have hr := mach_rdg h
 simp only [machB, Bool.and_eq_true, e1, e2] at h
 have h1 := span_of h.1.1.1.1.2
 have h2 := span_of h.1.1.2
 refine ⟨h1.1, h1.2.1, h1.2.2, h2.1, h2.2.1, h2.2.2, fun m hm => ?_⟩
 obtain ⟨p, hp, rfl⟩ := List.mem_map.1 hm
 have := rdg_of (hr p hp)
 have a1 : w64 (p.y - p.err) = p.y - p.err := wrap_small (by omega) (by omega)
 have a2 : w64 (p.y + p.err) = p.y + p.err := wrap_small (by omega) (by omega)
 simp only [a1, a2]
 omega
theorem marks_blk : (marksOf rs).all blkB = true := by
 refine List.all_eq_true.2 fun m hm => ?_
 obtain ⟨p, hp, rfl⟩ := List.mem_map.1 hm
 have := rdg_of (mach_rdg h p hp)
 simp [blkB, inB]
 omega
theorem marks_pos : ∀ m ∈ marksOf rs, 0 ≤ m.b := by
 intro m hm
 obtain ⟨p, hp, rfl⟩ := List.mem_map.1 hm
 exact (rdg_of (mach_rdg h p hp)).1
theorem axisX : axisV ⟨cx, wx, []⟩ (ownS (·.x) (marksOf rs) initS) = axO (boundsS (ax0 cx wx rs [])) := by
 have : ax0 cx wx rs [] = ⟨cx, wx, lims155 rs⟩ := by simp [ax0]
 rw [this]
 refine axis_ref (good_x h) _ (by rw [ownS_len]; rfl) (fun k hk => ?_)
 rw [own_get _ k _ _ (by exact hk) (marks_pos h), lims_155]
 rw [init_get hk]
theorem axisY : axisV ⟨cy, wy, []⟩ (ownS (·.y) (marksOf rs) initS) = axO (boundsS (ax1 cy wy rs [])) := by
 have : ax1 cy wy rs [] = ⟨cy, wy, lims156 rs⟩ := by simp [ax1]
 rw [this]
 refine axis_ref (good_y h) _ (by rw [ownS_len]; rfl) (fun k hk => ?_)
 rw [own_get _ k _ _ (by exact hk) (marks_pos h), lims_156]
 rw [init_get hk]
end
end Go.AM
namespace Go.AM
open Go Go.Proofs
variable [Keep]
attribute [local irreducible] W WO WO1 WD WQ WT thenQ blockQ endR isRet retK Cl ClR
attribute [local irreducible] axisV bothV boundsS machB
theorem K105 {X : Ctx} (hX : X.intr 105 = some (pureFn sp105)) (sa ra ma : AV) (st : List Pt) (rs : List Rdg) (ms : List Held) (cx cy wx wy : Sp) (hl : slV ptC sa = some st) (hr : slV rdgC ra = some rs) (hm : slV heldC ma = some ms) (hb : ms.all blkB = true) (h : Heap) :
  Cl X 105 [.agg [sa, .int .i64 cx.lo, .int .i64 cx.hi, .int .i64 cy.lo, .int .i64 cy.hi, .int .i64 wx.lo, .int .i64 wx.hi, .int .i64 wy.lo, .int .i64 wy.hi, ra], ma] h (.ret (bothV cx cy wx wy ms) h none) :=
 Cl.intr hX (by simp [pureFn, AV.pur, AV.purL, sl_pur hl, sl_pur hr, sl_pur hm, sp105, hl, hr, hm, hb])
theorem axO_is (o : Option (List Sp)) : ∃ x, axO o = .tuple [x, .bool o.isSome] ∧ outV (some x) = some x ∧ isTuple x = false ∧ ∀ t, o = some t → t.length = 13 → x = .vslice (t.map spC.enc) := by
 cases o with
 | none => exact ⟨_, rfl, rfl, rfl, fun t h => by cases h⟩
 | some t =>
  refine ⟨_, rfl, (slN_is _).out, (slN_is _).tup, fun t' h h13 => ?_⟩
  cases h
  cases t with
  | nil => simp at h13
  | cons a r => rfl
theorem bothV_mach {st : List Pt} {cx cy wx wy : Sp} {rs : List Rdg} (h : machB st cx cy wx wy rs = true) : ∃ x y, bothV cx cy wx wy (marksOf rs) = .tuple [x, y, .bool ((boundsS (ax0 cx wx rs [])).isSome && (boundsS (ax1 cy wy rs [])).isSome)] ∧
  outV (some x) = some x ∧ outV (some y) = some y ∧ isTuple x = false ∧ isTuple y = false ∧ (∀ t, boundsS (ax0 cx wx rs []) = some t → x = .vslice (t.map spC.enc)) ∧ (∀ t, boundsS (ax1 cy wy rs []) = some t → y = .vslice (t.map spC.enc)) := by
 obtain ⟨x, e1, e2, e3, e4⟩ := axO_is (boundsS (ax0 cx wx rs []))
 obtain ⟨y, f1, f2, f3, f4⟩ := axO_is (boundsS (ax1 cy wy rs []))
 refine ⟨x, y, ?_, e2, f2, e3, f3, fun t ht => e4 t ht (boundsS_len ht), fun t ht => f4 t ht (boundsS_len ht)⟩
 unfold bothV
 rw [axisX h, axisY h, e1, f1]
 rfl
noncomputable def cP1 : Itr
 | 105 => some (pureFn sp105)
 | 106 => some (pureFn sp106)
 | _ => none
theorem cP1_sound : Sound (dX cP1) := dX_sound (fun f g h => by
 unfold cP1 at h
 split at h
 ·cases h; exact F105
 ·cases h; exact F106
 ·cases h)
def sp104 : List AV → Option AV
 | [.agg [sa, .int .i64 cxl, .int .i64 cxh, .int .i64 cyl, .int .i64 cyh, .int .i64 wxl, .int .i64 wxh, .int .i64 wyl, .int .i64 wyh, ra]] => match slV ptC sa, slV rdgC ra with
  | some st, some rs => if machB st ⟨cxl, cxh⟩ ⟨cyl, cyh⟩ ⟨wxl, wxh⟩ ⟨wyl, wyh⟩ rs = true then some (.bool ((boundsS (ax0 ⟨cxl, cxh⟩ ⟨wxl, wxh⟩ rs [])).isSome && (boundsS (ax1 ⟨cyl, cyh⟩ ⟨wyl, wyh⟩ rs [])).isSome)) else none
  | _, _ => none
 | _ => none
theorem p104 : ∀ args v, sp104 args = some v → v.pur = true := by
 intro args v h
 unfold sp104 at h
 split at h
 ·split at h
  ·split at h
   ·cases h; rfl
   ·cases h
  ·cases h
 ·cases h
theorem slH_marks {rs : List Rdg} {ra : AV} (hr : slV rdgC ra = some rs) : slV heldC (slN ((marksOf rs).map heldC.enc)) = some (marksOf rs) := slV_slN (by simpa [marksOf] using sl_max hr)
set_option maxHeartbeats 1000000 in
theorem F104 : IntrFn Tryz.prog 104 (pureFn sp104) := by
 refine pure_fn (X := dX cP1) cP1_sound p104 ?_
 intro args v h
 unfold sp104 at h
 split at h
 ·rename_i sa cxl cxh cyl cyh wxl wxh wyl wyh ra
  split at h
  ·rename_i st rs hl hr
   split at h
   ·rename_i hok
    cases h
    obtain ⟨x, y, hv, hox, hoy, htx, hty, _, _⟩ := bothV_mach hok
    have hout := sl_out hr
    have hout2 := sl_out hl
    have h106 := fun hp => K106 (X := dX cP1) rfl sa ra st rs ⟨cxl, cxh⟩ ⟨cyl, cyh⟩ ⟨wxl, wxh⟩ ⟨wyl, wyh⟩ hl hr hp
    have hb := fun hp => K105 (X := dX cP1) rfl sa ra _ st rs _ ⟨cxl, cxh⟩ ⟨cyl, cyh⟩ ⟨wxl, wxh⟩ ⟨wyl, wyh⟩ hl hr (slH_marks hr) (marks_blk hok) hp
    rw [hv] at hb
    have hso := (slN_is ((marksOf rs).map heldC.enc)).out
    have hst := (slN_is ((marksOf rs).map heldC.enc)).tup
    generalize slN ((marksOf rs).map heldC.enc) = ma at *
    generalize ((boundsS (ax0 ⟨cxl, cxh⟩ ⟨wxl, wxh⟩ rs [])).isSome && (boundsS (ax1 ⟨cyl, cyh⟩ ⟨wyl, wyh⟩ rs [])).isSome) = b at *
    have H106 := Lib.hid h106
    have HB := Lib.hid hb
    clear h106 hb hv hl hr hok
    refine ClR.walk (c := _) rfl Tryz.func104 rfl (by kernel_rfl) rfl isRet_fail ?_
    simp only [entryEnv, Nat.reduceAdd]
    repeat' (first | (apply W.drawQ (id := 1) (l1 := [0, 1, 2, 3, 4, 5, 6, 7, 8, 9, 10]) (l2 := []); kernel_rfl; kernel_rfl; kernel_rfl; exact Z4) | refine go1 ?_ | (apply U6; exact Z1; exact Z1; (focus (simp only [List.nil_append, List.append_nil]; first | exact HB.out _ | exact H106.out _)); simp only [pM, pN, rR, rP]) | refine go2 (fun hh => ?_) (fun hh => ?_) | fail)
    all_goals (simp only [resV_def (X := dX cP1) Tryz.func104, Tryz.results104]; first | exact J5 | refine J6 ?_)
   ·cases h
  ·cases h
 ·cases h
theorem K104 {X : Ctx} (hX : X.intr 104 = some (pureFn sp104)) (sa ra : AV) (st : List Pt) (rs : List Rdg) (cx cy wx wy : Sp) (hl : slV ptC sa = some st) (hr : slV rdgC ra = some rs) (hok : machB st cx cy wx wy rs = true) (h : Heap) :
  Cl X 104 [.agg [sa, .int .i64 cx.lo, .int .i64 cx.hi, .int .i64 cy.lo, .int .i64 cy.hi, .int .i64 wx.lo, .int .i64 wx.hi, .int .i64 wy.lo, .int .i64 wy.hi, ra]] h (.ret (.bool ((boundsS (ax0 cx wx rs [])).isSome && (boundsS (ax1 cy wy rs [])).isSome)) h none) :=
 Cl.intr hX (by simp [pureFn, AV.pur, AV.purL, sl_pur hl, sl_pur hr, sp104, hl, hr, hok])
def ableI (ok : Bool) (p : Bool) : Int := if ok then (if p then 0 else 7) else 2
def sp40 : List AV → Option AV
 | [.agg [sa, .int .i64 cxl, .int .i64 cxh, .int .i64 cyl, .int .i64 cyh, .int .i64 wxl, .int .i64 wxh, .int .i64 wyl, .int .i64 wyh, ra]] => match slV ptC sa, slV rdgC ra with
  | some st, some rs => some (.int .i64 (ableI (machB st ⟨cxl, cxh⟩ ⟨cyl, cyh⟩ ⟨wxl, wxh⟩ ⟨wyl, wyh⟩ rs) ((boundsS (ax0 ⟨cxl, cxh⟩ ⟨wxl, wxh⟩ rs [])).isSome && (boundsS (ax1 ⟨cyl, cyh⟩ ⟨wyl, wyh⟩ rs [])).isSome)))
  | _, _ => none
 | _ => none
noncomputable def cP2 : Itr
 | 71 => some (flatFn sp71)
 | 104 => some (pureFn sp104)
 | _ => none
theorem cP2_sound : Sound (dX cP2) := dX_sound (fun f g h => by
 unfold cP2 at h
 split at h
 ·cases h; exact F71
 ·cases h; exact F104
 ·cases h)
set_option maxHeartbeats 1000000 in
theorem F40 : IntrFn Tryz.prog 40 (pureFn sp40) := by
 refine pure_fn (X := dX cP2) cP2_sound (fun a v h => by
  unfold sp40 at h
  split at h
  ·split at h
   ·cases h; rfl
   ·cases h
  ·cases h) ?_
 intro args v h
 unfold sp40 at h
 split at h
 ·rename_i sa cxl cxh cyl cyh wxl wxh wyl wyh ra
  split at h
  ·rename_i st rs hl hr
   cases h
   have hout := sl_out hr
   have hout2 := sl_out hl
   have hm := fun hp => K71 (X := dX cP2) rfl sa ra st rs ⟨cxl, cxh⟩ ⟨cyl, cyh⟩ ⟨wxl, wxh⟩ ⟨wyl, wyh⟩ hl hr hp
   rw [machR_B] at hm
   have hp : machB st ⟨cxl, cxh⟩ ⟨cyl, cyh⟩ ⟨wxl, wxh⟩ ⟨wyl, wyh⟩ rs = true → ∀ hp, _ := fun hok hp => K104 (X := dX cP2) rfl sa ra st rs ⟨cxl, cxh⟩ ⟨cyl, cyh⟩ ⟨wxl, wxh⟩ ⟨wyl, wyh⟩ hl hr hok hp
   generalize ((boundsS (ax0 ⟨cxl, cxh⟩ ⟨wxl, wxh⟩ rs [])).isSome && (boundsS (ax1 ⟨cyl, cyh⟩ ⟨wyl, wyh⟩ rs [])).isSome) = b at *
   have HM := Lib.hid hm
   clear hm hl hr
   cases hok : machB st ⟨cxl, cxh⟩ ⟨cyl, cyh⟩ ⟨wxl, wxh⟩ ⟨wyl, wyh⟩ rs with
   | false =>
    have hr : ableI false b = 2 := rfl
    rw [hr]
    clear hp hr
    refine ClR.walk (c := _) rfl Tryz.func40 rfl (by kernel_rfl) rfl isRet_fail ?_
    simp only [entryEnv, Nat.reduceAdd]
    repeat' (first | refine goS ?_ | (apply U6; exact Z1; exact Z1; (focus (simp only [List.nil_append, List.append_nil]; first | exact HM.out _)); simp only [pM, pN, rR, rP]) | refine go2 (fun hh => ?_) (fun hh => ?_) | fail)
    all_goals (simp only [resV_def (X := dX cP2) Tryz.func40, Tryz.results40]; first | exact J5 | refine J6 ?_)
   | true =>
    have hp := hp hok
    have HP := Lib.hid hp
    clear hp
    refine ClR.walk (c := _) rfl Tryz.func40 rfl (by kernel_rfl) rfl isRet_fail ?_
    simp only [entryEnv, Nat.reduceAdd]
    repeat' (first | refine goS ?_ | (apply U6; exact Z1; exact Z1; (focus (simp only [List.nil_append, List.append_nil]; first | exact HM.out _ | exact HP.out _)); simp only [pM, pN, rR, rP]) | refine go2 (fun hh => ?_) (fun hh => ?_) | fail)
    all_goals (simp only [resV_def (X := dX cP2) Tryz.func40, Tryz.results40]; first | exact J5 | refine J6 ?_)
    all_goals (simp only [Bool.not_eq_true', Bool.not_eq_false'] at hh; simp [ableI, hh])
  ·cases h
 ·cases h
def slLen : AV → Option Nat
 | .nilslice => some 0
 | .vempty => some 0
 | .vslice l => some l.length
 | _ => none
theorem slLen_is {a : AV} {n : Nat} (h : slLen a = some n) : lenS a = some n ∧ outV (some a) = some a ∧ isTuple a = false := by
 unfold slLen at h
 split at h <;> first | (cases h; exact ⟨rfl, rfl, rfl⟩) | cases h
def sp38 : List AV → Option AV
 | [.agg [sa, .int .i64 cxl, .int .i64 cxh, .int .i64 cyl, .int .i64 cyh, .int .i64 wxl, .int .i64 wxh, .int .i64 wyl, .int .i64 wyh, ra]] => match slLen sa, slLen ra with
  | some m, some n => some (.bool (decide ((m : Int) ≤ 6) && decide ((n : Int) ≤ 6)))
  | _, _ => none
 | _ => none
theorem F38 : IntrFn Tryz.prog 38 (pureFn sp38) := by
 refine pure_fn (X := dX cP2) cP2_sound (fun a v h => by
  unfold sp38 at h
  split at h
  ·split at h
   ·cases h; rfl
   ·cases h
  ·cases h) ?_
 intro args v h
 unfold sp38 at h
 split at h
 ·rename_i sa cxl cxh cyl cyh wxl wxh wyl wyh ra
  split at h
  ·rename_i m n hl hr
   cases h
   obtain ⟨h1, h2, h3⟩ := slLen_is hl
   obtain ⟨g1, g2, g3⟩ := slLen_is hr
   clear hl hr
   refine ClR.walk (c := _) rfl Tryz.func38 rfl (by kernel_rfl) rfl isRet_fail ?_
   simp only [entryEnv, Nat.reduceAdd]
   repeat' (first | refine goS ?_ | refine go2 (fun hh => ?_) (fun hh => ?_) | fail)
   all_goals (simp only [resV_def (X := dX cP2) Tryz.func38, Tryz.results38]; first | exact J5 | refine J6 ?_)
   all_goals simp [*]
  ·cases h
 ·cases h
end Go.AM
namespace Go.AM
open Go Go.Proofs
variable [Keep]
attribute [local irreducible] W WO WO1 WD WQ WT thenQ blockQ endR isRet retK Cl ClR
attribute [local irreducible] boundsS machB
def okN (n : Int) : Bool := inB n (-80) 80
def truthB (xs ys : List Int) : Bool := ((xs.length : Int) == 13) && ((ys.length : Int) == 13) && xs.all okN && ys.all okN
end Go.AM
namespace Go.AM
open Go Go.Proofs
variable [Keep]
attribute [local irreducible] W WO WO1 WD WQ WT thenQ blockQ endR isRet retK Cl ClR
def stepB (w : Sp) (l : List Int) (k : Nat) : Bool := inB (w64 (l.getD (k + 1) 0 - l.getD k 0)) w.lo w.hi
end Go.AM
namespace Go.AM
open Go Go.Proofs
variable [Keep]
attribute [local irreducible] W WO WO1 WD WQ WT thenQ blockQ endR isRet retK Cl ClR
def inL (l : List Int) (m : Lim) : Bool := inB (l.getD m.b.toNat 0) m.lo m.hi
def fitsA (ax : Ax) (l : List Int) : Bool := inB (l.getD 0 0) ax.chuck.lo ax.chuck.hi && ((List.range 12).all (fun k => stepB ax.wear l k) && ax.limits.all (inL l))
def isFit (h : Heap) (b : Bool) (r : COut) : Prop := ∃ h', HExt h h' ∧ r = .ret (.bool b) h' none
attribute [local irreducible] isFit
theorem RdL.ext {h h' : Heap} {v : AV} {l : List Lim} (r : RdL h v l) (e : HExt h h') : RdL h' v l :=
 ⟨r.len, r.out, r.max, r.one, r.tup, fun k m hk hp hq => r.get k m hk hp (fun id hi => (hq id (Nat.lt_of_lt_of_le hi e.1)).trans (e.2 id hi))⟩
end Go.AM
namespace Go.AM
open Go Go.Proofs
variable [Keep]
attribute [local irreducible] W WO WO1 WD WQ WT thenQ blockQ endR isRet retK Cl ClR
attribute [local irreducible] boundsS machB
section
variable {X : Ctx} {f : FuncId} {ops : Array Oper} {ts : List (Nat × Trace)} {i k : Nat} {r : List (Nat × Nat)} {x : Oper} {d : Option Tmp} {op : Op} {T : TypeId} {ps : String} {af : Array Edge}
  {f1 f2 : FuncId} {r1 r2 : Bool} {e1 e2 : Mp AV} {lm1 lm2 : Mp (Nat × List AV)} {hp1 hp2 : Heap} {df1 df2 : List (AV × List AV)} {up1 up2 : Option (AV × Bool)} {v1 v2 : AV} {a1 a2 : Fr} {j : Nat} {want b : Bool} {o : Oper} {s : Tmp}
end
def fitsM (cx cy wx wy : Sp) (rs : List Rdg) (xs ys : List Int) : Bool := fitsA ⟨cx, wx, lims155 rs⟩ xs && fitsA ⟨cy, wy, lims156 rs⟩ ys
end Go.AM
namespace Go.AM
open Go
variable [Keep]
def viewD (h : Heap) (a : AV) : Option AV :=
 match a with
 | .agg l => (viewVs h l).map AV.agg
 | a => viewV h a
def viewDs (h : Heap) : List AV → Option (List AV)
 | [] => some []
 | a :: r => match viewD h a, viewDs h r with
  | some x, some l => some (x :: l)
  | _, _ => none
variable {C : Cfg} {h : Heap} {w : World}
end Go.AM
namespace Go.AM
open Go
variable [Keep]
structure Four (h : Heap) (a b c d : AV) (k l m n : List AV) : Prop where
 ba : Blt h a 1 k
 bb : Blt h b 1 l
 bc' : Blt h c 1 m
 bd' : Blt h d 1 n
 ab : Sep a b
 ac : Sep a c
 ad : Sep a d
 bc : Sep b c
 bd : Sep b d
 cd : Sep c d
section
variable {h h' : Heap} {a b c d v : AV} {k l m n r : List AV} {i : Nat}
theorem Four.nil : Four h .nilslice .nilslice .nilslice .nilslice [] [] [] [] := ⟨.nil, .nil, .nil, .nil, .nil _, .nil _, .nil _, .nil _, .nil _, .nil _⟩
theorem Four.one (q : Four h a b c d k l m n) (hb : Blt h' v 1 r) (hk : Keeps h h' a) (he : v = .row h.next 0 i) : Four h' v b c d r l m n := by
 subst he
 exact ⟨hb, q.bb.apart hk q.ab, q.bc'.apart hk q.ac, q.bd'.apart hk q.ad, .new q.bb (Nat.le_refl _) _, .new q.bc' (Nat.le_refl _) _, .new q.bd' (Nat.le_refl _) _, q.bc, q.bd, q.cd⟩
theorem Four.turn (q : Four h a b c d k l m n) : Four h b c d a l m n k := ⟨q.bb, q.bc', q.bd', q.ba, q.bc, q.bd, q.ab.symm, q.cd, q.ac.symm, q.ad.symm⟩
theorem Four.two (q : Four h a b c d k l m n) (hb : Blt h' v 1 r) (hk : Keeps h h' b) (he : v = .row h.next 0 i) : Four h' a v c d k r m n := (q.turn.one hb hk he).turn.turn.turn
end
end Go.AM
namespace Go.AM
open Go Go.Proofs
variable [Keep]
attribute [local irreducible] W WO WO1 WD WQ WT thenQ blockQ endR isRet retK Cl ClR
attribute [local irreducible] roundQ RdR clR boundsS machB
def butB (hs : List Pt) (err : Int) : Bool := allB hs 2 80 && inB err 0 4
def sp162 : List AV → Option AV
 | [.agg [ha, .int .i64 err]] => (slV ptC ha).map fun hs => .bool (butB hs err)
 | _ => none
theorem p162 : ∀ args v, sp162 args = some v → v.pur = true := by
 intro args v h
 unfold sp162 at h
 split at h
 ·simp only [Option.map_eq_some_iff] at h; obtain ⟨l, _, rfl⟩ := h; rfl
 ·cases h
noncomputable def cHD : Itr
 | 28 => some (flatFn sp28)
 | 93 => some (pureFn sp93)
 | 94 => some (flatFn sp94)
 | 97 => some (pureFn sp97)
 | _ => none
theorem cHD_sound : Sound (dX cHD) := dX_sound (fun f g h => by
 unfold cHD at h
 split at h
 ·cases h; exact F28
 ·cases h; exact F93
 ·cases h; exact F94
 ·cases h; exact F97
 ·cases h)
theorem F162 : IntrFn Tryz.prog 162 (pureFn sp162) := by
 refine pure_fn (X := dX cHD) cHD_sound p162 ?_
 intro args v h
 unfold sp162 at h
 split at h
 ·rename_i ha err
  simp only [Option.map_eq_some_iff] at h
  obtain ⟨hs, hl, rfl⟩ := h
  have hout := sl_out hl
  have htup := (slV_is hl).1.tup
  simp only [isTuple] at htup
  have k94 := fun h => K94 (X := dX cHD) rfl ha hs 2 80 hl h
  have HB := Lib.hid (show butB hs err = (allB hs 2 80 && inB err 0 4) from rfl)
  generalize butB hs err = b at *
  generalize allB hs 2 80 = a at *
  clear hl
  refine ClR.walk (c := _) rfl Tryz.func162 rfl (by kernel_rfl) rfl isRet_fail ?_
  simp only [entryEnv, Nat.reduceAdd]
  cases a with
  | false =>
   repeat' (first | refine goS ?_ | (apply U6; exact Z1; exact Z1; (focus (simp only [List.nil_append, List.append_nil]; first | exact K93 rfl _ _ _ _ | exact k94 _)); simp only [pM, pN, rR, rP]) | refine go2 (fun hh => ?_) (fun hh => ?_) | fail)
   all_goals (simp only [resV_def (X := dX cHD) Tryz.func162, Tryz.results162]; first | exact J5 | refine J6 ?_)
   rw [HB.out]; rfl
  | true =>
   repeat' (first | refine goS ?_ | (apply U6; exact Z1; exact Z1; (focus (simp only [List.nil_append, List.append_nil]; first | exact K93 rfl _ _ _ _ | exact k94 _)); simp only [pM, pN, rR, rP]) | refine go2 (fun hh => ?_) (fun hh => ?_) | fail)
   all_goals (simp only [resV_def (X := dX cHD) Tryz.func162, Tryz.results162]; first | exact J5 | refine J6 ?_)
   rw [HB.out]; simp
 ·cases h
theorem K162 {X : Ctx} (hX : X.intr 162 = some (pureFn sp162)) (ha : AV) (hs : List Pt) (err : Int) (hl : slV ptC ha = some hs) (h : Heap) : Cl X 162 [.agg [ha, .int .i64 err]] h (.ret (.bool (butB hs err)) h none) :=
 Cl.intr hX (by simp [pureFn, AV.pur, AV.purL, sl_pur hl, sp162, hl])
theorem R51 : ∀ args v, sp162 args = some v → ClR (dX cHD) 51 args emptyHp (isRet v) := by
 intro args v h
 unfold sp162 at h
 split at h
 ·rename_i ha err
  simp only [Option.map_eq_some_iff] at h
  obtain ⟨hs, hl, rfl⟩ := h
  have hout := sl_out hl
  have htup := (slV_is hl).1.tup
  simp only [isTuple] at htup
  have k28 := fun h => K28 (X := dX cHD) rfl ha hs 2 4 80 hl h
  have HB := Lib.hid (show butB hs err = (pointsB hs 2 4 80 && inB err 0 4) by unfold butB; rw [allB_P])
  generalize butB hs err = b at *
  generalize pointsB hs 2 4 80 = a at *
  clear hl
  refine ClR.walk (c := _) rfl Tryz.func51 rfl (by kernel_rfl) rfl isRet_fail ?_
  simp only [entryEnv, Nat.reduceAdd]
  cases a with
  | false =>
   repeat' (first | refine goS ?_ | (apply U6; exact Z1; exact Z1; (focus (simp only [List.nil_append, List.append_nil]; first | exact K97 rfl _ _ _ _ | exact k28 _)); simp only [pM, pN, rR, rP]) | refine go2 (fun hh => ?_) (fun hh => ?_) | fail)
   all_goals (simp only [resV_def (X := dX cHD) Tryz.func51, Tryz.results51]; first | exact J5 | refine J6 ?_)
   rw [HB.out]; rfl
  | true =>
   repeat' (first | refine goS ?_ | (apply U6; exact Z1; exact Z1; (focus (simp only [List.nil_append, List.append_nil]; first | exact K97 rfl _ _ _ _ | exact k28 _)); simp only [pM, pN, rR, rP]) | refine go2 (fun hh => ?_) (fun hh => ?_) | fail)
   all_goals (simp only [resV_def (X := dX cHD) Tryz.func51, Tryz.results51]; first | exact J5 | refine J6 ?_)
   rw [HB.out]; simp
 ·cases h
theorem F51 : IntrFn Tryz.prog 51 (pureFn sp162) := pure_fn (X := dX cHD) cHD_sound p162 R51
theorem K51 {X : Ctx} (hX : X.intr 51 = some (pureFn sp162)) (ha : AV) (hs : List Pt) (err : Int) (hl : slV ptC ha = some hs) (h : Heap) : Cl X 51 [.agg [ha, .int .i64 err]] h (.ret (.bool (butB hs err)) h none) :=
 Cl.intr hX (by simp [pureFn, AV.pur, AV.purL, sl_pur hl, sp162, hl])
def suitB (m : Bool) (ss hs : List Pt) (err : Int) : Bool := m && butB hs err && decide (hs.length = ss.length)
def sp112 : List AV → Option AV
 | [.agg [sa, .int .i64 cxl, .int .i64 cxh, .int .i64 cyl, .int .i64 cyh, .int .i64 wxl, .int .i64 wxh, .int .i64 wyl, .int .i64 wyh, ra], .agg [ha, .int .i64 err]] => match slV ptC sa, slV rdgC ra, slV ptC ha with
  | some ss, some rs, some hs => some (.bool (suitB (machB ss ⟨cxl, cxh⟩ ⟨cyl, cyh⟩ ⟨wxl, wxh⟩ ⟨wyl, wyh⟩ rs) ss hs err))
  | _, _, _ => none
 | _ => none
theorem p112 : ∀ args v, sp112 args = some v → v.pur = true := by
 intro args v h
 unfold sp112 at h
 split at h
 ·split at h
  ·cases h; rfl
  ·cases h
 ·cases h
noncomputable def cHD2 : Itr
 | 101 => some (flatFn sp101)
 | 162 => some (pureFn sp162)
 | _ => none
theorem cHD2_sound : Sound (dX cHD2) := dX_sound (fun f g h => by
 unfold cHD2 at h
 split at h
 ·cases h; exact F101
 ·cases h; exact F162
 ·cases h)
set_option maxHeartbeats 1000000 in
theorem F112 : IntrFn Tryz.prog 112 (pureFn sp112) := by
 refine pure_fn (X := dX cHD2) cHD2_sound p112 ?_
 intro args v h
 unfold sp112 at h
 split at h
 ·rename_i sa cxl cxh cyl cyh wxl wxh wyl wyh ra ha err
  split at h
  ·rename_i ss rs hs hl hr hh
   have h := Option.some.inj h
   subst h
   have o1 := sl_out hh
   have o2 := sl_out hl
   have o3 := sl_out hr
   have l1 := sl_len hh
   have l2 := sl_len hl
   obtain ⟨one1, t1⟩ := sl_one hh
   obtain ⟨one2, t2⟩ := sl_one hl
   obtain ⟨one3, t3⟩ := sl_one hr
   have k101 := fun hp => K101 (X := dX cHD2) rfl sa ra ss rs ⟨cxl, cxh⟩ ⟨cyl, cyh⟩ ⟨wxl, wxh⟩ ⟨wyl, wyh⟩ hl hr hp
   have k162 := fun hp => K162 (X := dX cHD2) rfl ha hs err hh hp
   have HOK := Lib.hid (show suitB (machB ss ⟨cxl, cxh⟩ ⟨cyl, cyh⟩ ⟨wxl, wxh⟩ ⟨wyl, wyh⟩ rs) ss hs err = (machB ss ⟨cxl, cxh⟩ ⟨cyl, cyh⟩ ⟨wxl, wxh⟩ ⟨wyl, wyh⟩ rs && butB hs err && decide (hs.length = ss.length)) from rfl)
   generalize suitB (machB ss ⟨cxl, cxh⟩ ⟨cyl, cyh⟩ ⟨wxl, wxh⟩ ⟨wyl, wyh⟩ rs) ss hs err = ok at *
   generalize machB ss ⟨cxl, cxh⟩ ⟨cyl, cyh⟩ ⟨wxl, wxh⟩ ⟨wyl, wyh⟩ rs = b1 at *
   generalize butB hs err = b2 at *
   clear hh hl hr
   refine ClR.walk (c := _) rfl Tryz.func112 rfl (by kernel_rfl) rfl isRet_fail ?_
   simp only [entryEnv, Nat.reduceAdd, emptyHp]
   have hcase : (b1 = false) ∨ (b1 = true ∧ b2 = false) ∨ (b1 = true ∧ b2 = true) := by cases b1 <;> cases b2 <;> simp
   have HE := Lib.hid (show ((hs.length : Int) == (ss.length : Int)) = decide (hs.length = ss.length) by
    rw [Bool.eq_iff_iff]; simp only [beq_iff_eq, decide_eq_true_eq]; omega)
   rcases hcase with q1 | ⟨q1, q2⟩ | ⟨q1, q2⟩
   ·subst q1
    repeat' (first | refine goS ?_ | (apply U6; exact Z1; exact Z1; (focus (simp only [List.nil_append, List.append_nil]; first | exact k101 _ | exact k162 _)); simp only [pM, pN, rR, rP]) | refine go2 (fun hh => ?_) (fun hh => ?_) | fail)
    all_goals (simp only [resV_def (X := dX cHD2) Tryz.func112, Tryz.results112]; first | exact J5 | refine J6 ?_)
    rw [HOK.out]; rfl
   ·subst q1 q2
    repeat' (first | refine goS ?_ | (apply U6; exact Z1; exact Z1; (focus (simp only [List.nil_append, List.append_nil]; first | exact k101 _ | exact k162 _)); simp only [pM, pN, rR, rP]) | refine go2 (fun hh => ?_) (fun hh => ?_) | fail)
    all_goals (simp only [resV_def (X := dX cHD2) Tryz.func112, Tryz.results112]; first | exact J5 | refine J6 ?_)
    rw [HOK.out]; rfl
   ·subst q1 q2
    repeat' (first | refine goS ?_ | (apply U6; exact Z1; exact Z1; (focus (simp only [List.nil_append, List.append_nil]; first | exact k101 _ | exact k162 _)); simp only [pM, pN, rR, rP]) | refine go2 (fun hh => ?_) (fun hh => ?_) | fail)
    all_goals (simp only [resV_def (X := dX cHD2) Tryz.func112, Tryz.results112]; first | exact J5 | refine J6 ?_)
    rw [HOK.out, HE.out]; rfl
  ·cases h
 ·cases h
theorem K112 {X : Ctx} (hX : X.intr 112 = some (pureFn sp112)) (sa ra ha : AV) (ss hs : List Pt) (rs : List Rdg) (cx cy wx wy : Sp) (err : Int) (hl : slV ptC sa = some ss) (hr : slV rdgC ra = some rs) (hh : slV ptC ha = some hs) (h : Heap) :
  Cl X 112 [.agg [sa, .int .i64 cx.lo, .int .i64 cx.hi, .int .i64 cy.lo, .int .i64 cy.hi, .int .i64 wx.lo, .int .i64 wx.hi, .int .i64 wy.lo, .int .i64 wy.hi, ra], .agg [ha, .int .i64 err]] h (.ret (.bool (suitB (machB ss cx cy wx wy rs) ss hs err)) h none) :=
 Cl.intr hX (by simp [pureFn, AV.pur, AV.purL, sl_pur hl, sl_pur hr, sl_pur hh, sp112, hl, hr, hh])
end Go.AM
namespace Go.AM
open Go
variable [Keep]
def newRes (h : Heap) (sz : Nat) (el rest : List AV) : AV × Heap :=
 if el.isEmpty then (.tuple (.nilslice :: rest), h) else (.tuple (.row h.next 0 el.length :: rest), h.new (.rw sz el))
def newFn (sz : Nat) (spec : List AV → Option (List AV × List AV)) : List AV → Heap → Option (AV × Heap) := fun args h => match viewDs h args with
 | some l => (match spec l with | some (el, rest) => some (newRes h sz el rest) | none => none)
 | none => none
theorem BR.flat {C D : Cfg} {w w' : World} {L : Loc} {sz : Nat} {el : List AV} (h : BR C w L (.rw sz el)) (hf : ∀ e ∈ el, ∀ x ∈ e.cells, x.flat = true) (e : w'.heap[L.b]? = w.heap[L.b]?) : BR D w' L (.rw sz el) := by
 obtain ⟨c, h1, h2, h3, h4, h5⟩ := h
 refine ⟨c, h1.same e, h2, h3, h4, fun i x hx => ?_⟩
 obtain ⟨k1, k2, k3⟩ := h5 i x hx
 refine ⟨k1, k2, fun j y hy => ?_⟩
 obtain ⟨v, hv, hr⟩ := k3 j y hy
 exact ⟨v, hv, hr.flat (hf x (List.mem_of_getElem? hx) y (List.mem_of_getElem? hy))⟩
variable {C : Cfg} {h : Heap} {w : World}
def isNew (sz : Nat) (el rest : List AV) : COut → Prop
 | .ret (.tuple (v :: r)) h none => r = rest ∧ Blt h v sz el
 | _ => False
theorem newRes_is (h : Heap) (sz : Nat) (el rest : List AV) : ∃ v h', newRes h sz el rest = (.tuple (v :: rest), h') ∧ Blt h' v sz el ∧ h.next ≤ h'.next ∧ ∀ id, id < h.next → h'.get id = h.get id := by
 unfold newRes
 cases el with
 | nil => exact ⟨.nilslice, h, rfl, .inl ⟨rfl, rfl⟩, Nat.le_refl _, fun _ _ => rfl⟩
 | cons a r =>
  refine ⟨.row h.next 0 (a :: r).length, h.new (.rw sz (a :: r)), rfl, .inr ⟨h.next, rfl, by rw [Heap.get_new, if_pos rfl], Nat.lt_succ_self _, by simp⟩, Nat.le_succ _, fun id hid => ?_⟩
  rw [Heap.get_new, if_neg (by omega)]
theorem Cl.new {X : Ctx} {f : FuncId} {sz : Nat} {spec : List AV → Option (List AV × List AV)} {args l el rest : List AV} {h : Heap} (hX : X.intr f = some (newFn sz spec)) (hv : viewDs h args = some l) (hs : spec l = some (el, rest)) :
  ∃ v h', Cl X f args h (.ret (.tuple (v :: rest)) h' none) ∧ Blt h' v sz el ∧ h.next ≤ h'.next ∧ ∀ id, id < h.next → h'.get id = h.get id := by
 obtain ⟨v, h', e, hb, hx⟩ := newRes_is h sz el rest
 exact ⟨v, h', Cl.intr hX (by simp [newFn, hv, hs, e]), hb, hx⟩
end Go.AM
namespace Go.AM
open Go Go.Proofs
variable [Keep]
attribute [local irreducible] W WO WO1 WD WQ WT thenQ blockQ endR isRet retK Cl ClR
attribute [local irreducible] isNew roundQ RdR clR boundsS machB
def cellI (b sz : Nat) (l : List AV) (h : Heap) : Prop := b < h.next ∧ ∃ v, h.get b = some (.var [v]) ∧ Blt h v sz l
def cellO (b : Nat) (h : Heap) (id : Nat) : Prop := id = b ∨ ∃ off n, h.get b = some (.var [.row id off n])
theorem cell_ok {σ : Type} (b sz : Nat) (f : σ → List AV) (P : σ → Prop) : OwnOk (fun s h => cellI b sz (f s) h ∧ P s) (cellO b) := by
 refine ⟨fun s h h' i hn hg => ?_, fun s h id i ho => ?_⟩
 ·obtain ⟨⟨hb, v, g, bl⟩, hp⟩ := i
  have e := hg b (.inl rfl)
  refine ⟨⟨⟨Nat.lt_of_lt_of_le hb hn, v, e.trans g, ?_⟩, hp⟩, fun id ho => ?_⟩
  ·rcases bl with q | ⟨id, q1, q2, q3, q4⟩
   ·exact .inl q
   ·subst q1
    exact .inr ⟨id, rfl, (hg id (.inr ⟨_, _, g⟩)).trans q2, Nat.lt_of_lt_of_le q3 hn, q4⟩
  ·rcases ho with q | ⟨off, n, q⟩
   ·exact .inl q
   ·exact .inr ⟨off, n, by rw [← e]; exact q⟩
 ·obtain ⟨⟨hb, v, g, bl⟩, _⟩ := i
  rcases ho with rfl | ⟨off, n, q⟩
  ·exact hb
  ·rw [g] at q
   cases q
   rcases bl with ⟨q, _⟩ | ⟨id', q1, q2, q3, q4⟩
   ·cases q
   ·cases q1; exact q3
theorem Blt.ne_row {h : Heap} {v : AV} {sz id : Nat} {l : List AV} (b : Blt h v sz l) (hg : ∀ z r, h.get id ≠ some (.rw z r)) : ∀ off n, v ≠ .row id off n := by
 intro off n e
 rcases b with ⟨q, _⟩ | ⟨id', q1, q2, _⟩
 ·rw [q] at e; cases e
 ·rw [q1] at e; cases e; exact hg _ _ q2
theorem Blt.putv {h : Heap} {v : AV} {sz id : Nat} {l : List AV} {bl : Blk} (b : Blt h v sz l) (hg : ∀ z r, h.get id ≠ some (.rw z r)) : Blt (h.put id bl) v sz l := by
 rcases b with q | ⟨id', q1, q2, q3, q4⟩
 ·exact .inl q
 ·exact .inr ⟨id', q1, by rw [Heap.get_put, if_neg (fun e => hg _ _ (e ▸ q2))]; exact q2, q3, q4⟩
def canB (cx cy wx wy : Sp) (rs : List Rdg) (n : Nat) (y : Bx) : Bool := (boundsS (ax0 cx wx rs [⟨n, y.x, y.y⟩])).isSome && (boundsS (ax1 cy wy rs [⟨n, y.x, y.y⟩])).isSome
def couldN (p : Nat → Bool) (k : Nat) : List Nat := ((List.range k).filter fun i => p (i + 1)).map (· + 1)
def possB (cx cy wx wy : Sp) (rs : List Rdg) : Bool := (boundsS (ax0 cx wx rs [])).isSome && (boundsS (ax1 cy wy rs [])).isSome
theorem kn_yes {A B : Ax} (h : ((boundsS A).isSome && (boundsS B).isSome) = true) : ∃ a b, knV A B = .tuple [.agg [a, b], .bool true] ∧ outV (some a) = some a ∧ outV (some b) = some b ∧ isTuple a = false ∧ isTuple b = false := by
 simp only [Bool.and_eq_true, Option.isSome_iff_exists] at h
 obtain ⟨⟨a, ha⟩, ⟨b, hb⟩⟩ := h
 exact ⟨_, _, by rw [knV_def, ha, hb]; rfl, (slN_is _).out, (slN_is _).out, (slN_is _).tup, (slN_is _).tup⟩
theorem kn_no {A B : Ax} (h : ((boundsS A).isSome && (boundsS B).isSome) = false) : knV A B = .tuple [.agg [.nilslice, .nilslice], .bool false] := by
 cases hA : boundsS A with
 | none => exact knV_no1 hA
 | some a => cases hB : boundsS B with
  | none => exact knV_no2 hB
  | some b => rw [hA, hB] at h; cases h
end Go.AM
namespace Go.AM
open Go
variable [Keep]
section
variable {X : Ctx} {ops : Array Oper} {K P : AV → Fr → Prop} {F : Fr} {d : Option Tmp} {T : TypeId} {p : String} {af : Array Edge}
theorem WO1.appendK {args : Array Operand} {at_ : Array TypeId} {t u e e' : TypeId} {tl : List TypeId} {sz : Nat} {y : AV} {l : List AV} (hargs : F.opvs args.toList = some [.nilslice, y]) (ht : at_.toList = t :: u :: tl) (hu : X.P.underlying u = some (.slice e'))
  (hel : elemT X.P t = some e) (hs : szT X.P e = sz) (hrow : rowable X.P e = true) (hy : F.hp.elems y = some l) (hsz : ∀ v ∈ l, v.cells.length = sz) (hlen : l.length ≤ most)
  (h : ∀ v' h', BltN F.hp.next h' v' sz l → outV (some v') = some v' → (F.hp.next ≤ h'.next ∧ ∀ id, id < F.hp.next → h'.get id = F.hp.get id) → K v' (({ F with hp := h' } : Fr).put d v')) : WO1 X ops ⟨d, .call ⟨.builtin .append, args, at_⟩, T, p, af, none⟩ F K P := by
 subst hs
 have h1 : (l.all fun v => v.cells.length == szT X.P e) = true := List.all_eq_true.2 fun v hv => by simpa using hsz v hv
 by_cases hl : l = []
 ·subst hl
  refine U5 (v := .nilslice) (F' := F) rfl (fun cl rd => ?_) ?_
  ·simp only [efV, Fr.callOp, Fr.builtinE, Fr.appendE, ht, hargs, hu]
   have e1 : appendV X.P F t .nilslice [] = some (.nilslice, F) := by simp [appendV, hel, hrow]
   cases y <;> first | (simp only [hy, e1, okO]; done) | simp [Heap.elems] at hy
  ·exact h .nilslice F.hp BltN.nil rfl ⟨Nat.le_refl _, fun _ _ => rfl⟩
 ·have h2 : ¬ l.length = 0 := by simpa using hl
  have e1 : appendV X.P F t .nilslice l = some (.row F.hp.next 0 l.length, { F with hp := F.hp.new (.rw (szT X.P e) l) }) := by simp [appendV, hel, h1, hrow, hlen, h2, hl]
  refine U5 (v := .row F.hp.next 0 l.length) (F' := { F with hp := F.hp.new (.rw (szT X.P e) l) }) rfl (fun cl rd => ?_) (h _ _ (.inr ⟨F.hp.next, rfl, by rw [Heap.get_new, if_pos rfl], Nat.le_refl _, Nat.lt_succ_self _, hl⟩) rfl ⟨Nat.le_succ _, fun id hid => by rw [Heap.get_new, if_neg (by omega)]⟩)
  simp only [efV, Fr.callOp, Fr.builtinE, Fr.appendE, ht, hargs, hu]
  cases y <;> first | (simp only [hy, e1, okO]; done) | simp [Heap.elems] at hy
end
section
variable {X : Ctx} {f : FuncId} {ops : Array Oper} {ts : List (Nat × Trace)} {i k j : Nat} {r : List (Nat × Nat)} {x y o : Oper} {d : Option Tmp} {op : Op} {T : TypeId} {ps : String} {af : Array Edge} {want b : Bool} {s : Tmp}
  {f1 f2 : FuncId} {r1 r2 : Bool} {e1 e2 : Mp AV} {lm1 lm2 : Mp (Nat × List AV)} {hp1 hp2 : Heap} {df1 df2 : List (AV × List AV)} {up1 up2 : Option (AV × Bool)} {v1 v2 : AV} {a1 a2 b2 : Fr}
theorem calmR (h1 : ops[i]? = some ⟨d, op, T, ps, af, none⟩) (h2 : ops[k]? = some y) (h3 : traceOf ts i = some ⟨Fr.mk f1 r1 e1 lm1 hp1 df1 up1, v1, a1⟩) (h4 : traceOf ts k = some ⟨b2, v2, Fr.mk f2 r2 e2 lm2 hp2 df2 up2⟩)
  (h5 : isEffD X f ⟨d, op, T, ps, af, none⟩ = false) (h7 : rdV X (Fr.mk f1 r1 e1 lm2 hp2 df1 up1) d op = some v1) (h8 : r.all (calmPair X f ops ts) = true) : ((i, k) :: r).all (calmPair X f ops ts) = true := by
 simp only [List.all_cons, h8, Bool.and_true, calmPair, h1, h2, h3, h4, h5, Bool.false_eq_true, if_false, rereads, wantedA, if_true, h7]
 exact AV.same_refl _
theorem calmE (h1 : ops[i]? = some x) (h2 : ops[k]? = some ⟨d, op, T, ps, af, none⟩) (h3 : traceOf ts i = some ⟨Fr.mk f1 r1 e1 lm1 hp1 df1 up1, v1, a1⟩) (h4 : traceOf ts k = some ⟨Fr.mk f2 r2 e2 lm2 hp2 df2 up2, v2, a2⟩)
  (h5 : isEffD X f x = true) (h7 : rdV X (Fr.mk f2 r2 e2 lm1 hp1 df2 up2) d op = some v2) (h8 : r.all (calmPair X f ops ts) = true) : ((i, k) :: r).all (calmPair X f ops ts) = true := by
 simp only [List.all_cons, h8, Bool.and_true, calmPair, h1, h2, h3, h4, h5, if_true, rereads, wantedA, h7]
 exact AV.same_refl _
theorem calmEnd : ([] : List (Nat × Nat)).all (calmPair X f ops ts) = true := rfl
end
end Go.AM
namespace Go.AM
open Go
variable [Keep]
def SeeV {α : Type} (h : Heap) (c : Cd α) (a : AV) (l : List α) : Prop := ∃ a', viewV h a = some a' ∧ slV c a' = some l
theorem SeeV.of {α : Type} {c : Cd α} {a : AV} {l : List α} (hl : slV c a = some l) (h : Heap) : SeeV h c a l := by
 have hp := sl_pur hl
 rcases (slV_is hl).1 with ⟨rfl | rfl, _⟩ | rfl
 ·exact ⟨_, rfl, hl⟩
 ·exact ⟨_, rfl, hl⟩
 ·exact ⟨_, by simp only [viewV, hp, if_true], hl⟩
end Go.AM
namespace Go.AM
open Go Go.Proofs
variable [Keep]
attribute [local irreducible] W WO WO1 WD WQ WT thenQ blockQ endR isRet retK Cl ClR
theorem eqh48 : Tryz.prog.stoodInHeld 48 = false := by kernel_rfl
theorem slLen_mk {a : AV} {es : List AV} (h : isSl a es) : slLen a = some es.length := by rcases h with ⟨rfl | rfl, rfl⟩ | rfl <;> rfl
end Go.AM
namespace Go.AM
open Go Go.Proofs
variable [Keep]
attribute [local irreducible] W WO WO1 WD WQ WT thenQ blockQ endR isRet retK Cl ClR
attribute [local irreducible] isNew roundQ RdR clR boundsS machB boxL suitB
theorem eqG181 : Tryz.prog.eqGuardType Tryz.prog.depth 181 = false := by kernel_rfl
theorem eqH181 : Tryz.prog.stoodInHeld 181 = false := by kernel_rfl
theorem eq181 (a b c d e a' b' c' d' e' : Int) : binV Tryz.prog .eql 181 false (.agg [.int .i64 a, .int .i64 b, .int .i64 c, .int .i64 d, .int .i64 e]) (.agg [.int .i64 a', .int .i64 b', .int .i64 c', .int .i64 d', .int .i64 e']) = some (.bool (a == a' && (b == b' && c == c') && (d == d' && e == e'))) := by
 simp only [binV, eqOp, eqV, eqG181, Bool.false_eq_true, if_false, eqDepth, eqT, Tryz.underlying181, eqH181, eqFields, Tryz.underlying48, eqh48]
 simp [eqFields, readT, ty_lay3, ty_lay48, readAt, Tryz.underlying3, Tryz.underlying48, eqT]
 cases h1 : (a == a') <;> cases h2 : (b == b') <;> cases h3 : (c == c') <;> cases h4 : (d == d') <;> cases h5 : (e == e') <;> simp_all
def sp120 : List AV → Option AV
 | [la, .agg [.int .i64 _, .int .i64 xl, .int .i64 xh, .int .i64 yl, .int .i64 yh], .int .i64 n] => match slV heldC la with
  | some ms => if decide (ms.length ≤ 1000) = true then some (slN ((ms ++ [Held.mk n ⟨xl, xh⟩ ⟨yl, yh⟩]).map heldC.enc)) else none
  | _ => none
 | _ => none
theorem p120 : ∀ args v, sp120 args = some v → v.pur = true := by
 intro args v h
 unfold sp120 at h
 split at h
 ·split at h
  ·split at h
   ·cases h; exact slN_pur (enc_pur heldC _)
   ·cases h
  ·cases h
 ·cases h
set_option maxHeartbeats 1000000 in
theorem F120 : IntrFn Tryz.prog 120 (pureFn sp120) := by
 refine pure_fn (X := dX cHB) cHB_sound p120 ?_
 intro args v h
 unfold sp120 at h
 split at h
 ·rename_i la b0 xl xh yl yh n
  split at h
  ·rename_i ms hl
   split at h
   ·rename_i hc
    have h := Option.some.inj h
    subst h
    simp only [decide_eq_true_eq] at hc
    have hout := sl_out hl
    have hel : ∀ hp : Heap, hp.elems la = some (ms.map heldC.enc) := fun hp => (slV_is hl).1.elems hp
    have hel := hel ⟨0, .nil⟩
    have htup := (slV_is hl).1.tup
    simp only [isTuple] at htup
    have hsz : ∀ v ∈ ms.map heldC.enc, v.cells.length = 5 := fun v hv => by
     obtain ⟨k, _, rfl⟩ := List.mem_map.1 hv
     rfl
    have hlen : (ms.map heldC.enc).length ≤ most := by rw [List.length_map]; unfold most; omega
    have hll : (ms.map heldC.enc).length + (0 + 1) ≤ most := by rw [List.length_map]; unfold most; omega
    rw [List.map_append]
    clear hl hc
    refine ClR.walk (c := _) rfl Tryz.func120 rfl (by kernel_rfl) rfl isRet_fail ?_
    simp only [entryEnv, Nat.reduceAdd, emptyHp]
    repeat' (first | (apply W.draw (id := 2) (lc := [0, 1, 2, 3, 4, 5]) (hot := [(1, 2)]); kernel_rfl; kernel_rfl; kernel_rfl; exact Z4) | (refine WD.cons rfl rfl ?_) | (refine WD.nil ⟨?_, ?_⟩; rotate_left; simp only [tN, bN, eN, true_and]) | (refine calmR rfl rfl rfl rfl rfl ?_ ?_; (focus (first | exact Z2 | exact Z1))) | (refine calmE rfl rfl rfl rfl rfl ?_ ?_; (focus (first | exact Z2 | exact Z1))) | (with_reducible refine calmEnd) | (apply WO1.appendK (t := 156) (u := 156) (e := 181) (e' := 181) (sz := 5) (tl := []) (y := la) (l := ms.map heldC.enc); (focus (first | exact Z2 | exact Z1)); exact rfl; exact Z2; exact Z2; exact Z2; (focus (exact ty_row156)); (focus (exact hel)); (focus (exact hsz)); (focus (exact hlen)); (intro v1 hp1 hB1 ho1 hX1; simp only [pM, pN])) | (apply WO1.appendN (t := 156) (u := 156) (e := 181) (e' := 181) (sz := 5) (tl := []) (b := 0) (h0 := ⟨0, .nil⟩); (focus (exact hB1)); (focus (exact hX1)); exact Z1; exact rfl; exact Z2; exact Z2; exact Z2; (focus (exact ty_row156)); exact Z1; (focus (intro v hv; simp at hv; subst hv; rfl)); (focus (simp only [List.length_cons, List.length_nil]; exact hll)); (focus (simp)); (intro v2 hp2 hB2 ho2 hX2; have hc2 := hB2.blt.cells; have ht2 := hB2.blt.tup; obtain ⟨hf2, y1, y2, y3⟩ := hB2.blt.freeze; simp only [AV.cells] at hc2; simp only [isTuple] at ht2; simp only [pM, pN])) | refine go1 ?_ | refine go2 (fun hh => ?_) (fun hh => ?_) | fail)
    all_goals (simp only [resV_def (X := dX cHB) Tryz.func120, Tryz.results120]; first | exact J5 | refine J6 ?_)
    all_goals rfl
   ·cases h
  ·cases h
 ·cases h
theorem K120 {X : Ctx} (hX : X.intr 120 = some (pureFn sp120)) (la : AV) (ms : List Held) (b0 n : Int) (x : Bx) (hl : slV heldC la = some ms) (hm : ms.length ≤ 1000) (h : Heap) : Cl X 120 [la, .agg [.int .i64 b0, .int .i64 x.x.lo, .int .i64 x.x.hi, .int .i64 x.y.lo, .int .i64 x.y.hi], .int .i64 n] h (.ret (slN ((ms ++ [Held.mk n x.x x.y]).map heldC.enc)) h none) :=
 Cl.intr hX (by simp [pureFn, AV.pur, AV.purL, sl_pur hl, sp120, hl, hm])
theorem mach_small {ss : List Pt} {cx cy wx wy : Sp} {rs : List Rdg} (h : machB ss cx cy wx wy rs = true) : 2 ≤ ss.length ∧ ss.length ≤ 4 ∧ rs.length ≤ 4 := by
 unfold machB at h
 simp only [Bool.and_eq_true, decide_eq_true_eq] at h
 have h1 : allB ss 2 20 = true := by simp only [h]
 rw [allB_P] at h1
 simp only [pointsB, inB, Bool.and_eq_true, decide_eq_true_eq] at h1
 omega
theorem suit_small {ss hs : List Pt} {cx cy wx wy : Sp} {rs : List Rdg} {err : Int} (h : suitB (machB ss cx cy wx wy rs) ss hs err = true) : machB ss cx cy wx wy rs = true ∧ butB hs err = true ∧ hs.length = ss.length ∧ 2 ≤ ss.length ∧ ss.length ≤ 4 ∧ rs.length ≤ 4 := by
 unfold suitB at h
 simp only [Bool.and_eq_true, decide_eq_true_eq] at h
 exact ⟨h.1.1, h.1.2, h.2, mach_small h.1.1⟩
end Go.AM
namespace Go.AM
open Go Go.Proofs
variable [Keep]
attribute [local irreducible] W WO WO1 WD WQ WT thenQ blockQ endR isRet retK Cl ClR
attribute [local irreducible] isNew roundQ RdR clR boundsS machB boxL suitB
structure MA where
 sa : AV
 ra : AV
 cx : Sp
 cy : Sp
 wx : Sp
 wy : Sp
 ps : sa.pur = true ∧ ra.pur = true
def MA.stops (m : MA) : List Pt := (slV ptC m.sa).getD []
def MA.rdgs (m : MA) : List Rdg := (slV rdgC m.ra).getD []
def MA.ok (m : MA) : Bool := (slV ptC m.sa).isSome && (slV rdgC m.ra).isSome
theorem MA.ok_is {m : MA} (h : m.ok = true) : slV ptC m.sa = some m.stops ∧ slV rdgC m.ra = some m.rdgs := by
 unfold MA.ok at h
 simp only [Bool.and_eq_true, Option.isSome_iff_exists] at h
 obtain ⟨⟨a, ha⟩, ⟨b, hb⟩⟩ := h
 simp [MA.stops, MA.rdgs, ha, hb]
def MA.mach (m : MA) : Bool := machB m.stops m.cx m.cy m.wx m.wy m.rdgs
def MA.suit (m : MA) (hs : List Pt) (err : Int) : Bool := suitB m.mach m.stops hs err
def MA.poss (m : MA) : Bool := possB m.cx m.cy m.wx m.wy m.rdgs
def MA.could (m : MA) (hs : List Pt) (err : Int) : List Nat := couldN (fun n => (boxL err m.stops hs).any (canB m.cx m.cy m.wx m.wy m.rdgs n)) 12
theorem MA.cells {m : MA} (h : m.ok = true) : m.sa.cells = [m.sa] ∧ m.ra.cells = [m.ra] := by
 obtain ⟨h1, h2⟩ := MA.ok_is h
 exact ⟨(slV_is h1).1.cells, (slV_is h2).1.cells⟩
end Go.AM
