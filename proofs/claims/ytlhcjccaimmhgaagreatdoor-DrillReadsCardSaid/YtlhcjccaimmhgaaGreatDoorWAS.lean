/-
  A part of the proof: contracts of functions.
-/
import Derived.Test.YtlhcjccaimmhgaaGreatDoorWAO
import Derived.Test.YtlhcjccaimmhgaaGreatDoorWAM
import Derived.Test.YtlhcjccaimmhgaaGreatDoorWAK
import Derived.Test.YtlhcjccaimmhgaaGreatDoorWAR
set_option linter.unusedSectionVars false
set_option linter.unusedVariables false
set_option linter.unusedSimpArgs false
set_option maxRecDepth 100000
namespace Go.AM
open Go Go.Proofs
variable [Keep]
attribute [local irreducible] W WO WO1 WD WQ WT thenQ blockQ endR isRet retK Cl ClR
attribute [local irreducible] axisV bothV
theorem rep_next (k : Nat) : (List.replicate k wideS).map spC.enc ++ [.agg [.int .i64 (-1000), .int .i64 1000]] = (List.replicate (k + 1) wideS).map spC.enc := by
 rw [List.replicate_succ']
 simp [spC, wideS]
set_option maxHeartbeats 4000000 in
theorem F105 : IntrFn Tryz.prog 105 (pureFn sp105) := by
 refine pure_fn (X := dX cW) cW_sound p105 ?_
 intro args v h
 unfold sp105 at h
 split at h
 ·rename_i sa cxl cxh cyl cyh wxl wxh wyl wyh ra ma
  split at h
  ·rename_i st rs ms hl hr hm
   split at h
   ·rename_i hbl
    have h := Option.some.inj h
    subst h
    have hlen := sl_len hm
    have hout := sl_out hm
    have hmax := sl_max hm
    have hout2 := sl_out hl
    have hout3 := sl_out hr
    obtain ⟨x, p, y, q, hax, hay, hv, _, _, hox, hoy, hfx, hfy, htx, hty⟩ := bothV_is ⟨cxl, cxh⟩ ⟨cyl, cyh⟩ ⟨wxl, wxh⟩ ⟨wyl, wyh⟩ ms
    rw [hv]
    have HAX := Lib.hid hax
    have HAY := Lib.hid hay
    have HBL := Lib.hid hbl
    clear hv hl hr hbl hax hay
    refine ClR.walk (c := _) rfl Tryz.func105 rfl (by kernel_rfl) rfl isRet_fail ?_
    simp only [entryEnv, Nat.reduceAdd]
    repeat' (first | refine goS ?_ | refine go2 (fun hh => ?_) (fun hh => ?_) | fail)
    refine W.loopN 13 (fun k F => ∃ e lm hp ux uy, F = Fr.mk 105 false e lm hp [] none ∧ Blt hp ux 2 ((List.replicate k wideS).map spC.enc) ∧ Blt hp uy 2 ((List.replicate k wideS).map spC.enc) ∧ Sep ux uy ∧
     lm.get 2 = some (0, [sa, .int .i64 cxl, .int .i64 cxh, .int .i64 cyl, .int .i64 cyh, .int .i64 wxl, .int .i64 wxh, .int .i64 wyl, .int .i64 wyh, ra]) ∧ e.get 2 = some (.lptr 2 0 0) ∧ e.get 1 = some ma ∧ e.get 7 = some ux ∧ e.get 8 = some uy ∧ e.get 9 = some (.int .i64 ↑k) ∧ k ≤ 13) ?_ ?_
    ·refine ⟨_, _, _, _, _, rfl, Blt.nil, Blt.nil, Sep.nil _, ?_, ?_, ?_, ?_, ?_, ?_, ?_⟩ <;> first | exact Z2 | simp [go_sem, *]
    rintro k F ⟨e, lm, hp, ux, uy, rfl, hBx, hBy, hSep, hl2, h2, h1, h7, h8, h9, hk⟩
    have hbox := hBx.out
    have hboy := hBy.out
    by_cases hlt : k < 13
    ·have hd : decide ((k : Int) ≤ 12) = true := by simp; omega
     have hw := wrap_succ hlt (by unfold maxL; omega)
     have hll : ((List.replicate k wideS).map spC.enc).length + 1 ≤ most := by simp only [List.length_map, List.length_replicate]; unfold most; omega
     repeat' (first | (apply WO1.appendE (t := 146) (u := 146) (e := 48) (e' := 48) (sz := 2) (tl := []) (hb := hBx); exact Z1; exact rfl; exact Z2; exact Z2; exact Z2; (focus (exact ty_row146)); exact Z1; (focus (intro v hv; simp at hv; rcases hv with rfl | rfl <;> rfl)); (focus (simp only [List.length_cons, List.length_nil]; exact hll)); (focus (simp)); (intro vx hx1 hBx1 hox1 hKx1 hEx1; have hBy1 := hBy.apart hKx1 hSep; simp only [pM, pN])) | (apply WO1.appendE (t := 146) (u := 146) (e := 48) (e' := 48) (sz := 2) (tl := []) (hb := hBy1); exact Z1; exact rfl; exact Z2; exact Z2; exact Z2; (focus (exact ty_row146)); exact Z1; (focus (intro v hv; simp at hv; rcases hv with rfl | rfl <;> rfl)); (focus (simp only [List.length_cons, List.length_nil]; exact hll)); (focus (simp)); (intro vy hy1 hBy2 hoy1 hKy1 hEy1; simp only [pM, pN])) | refine go1 ?_ | refine go2 (fun hh => ?_) (fun hh => ?_) | fail)
     refine ⟨hlt, _, _, _, vx, vy, rfl, ?_, ?_, ?_, ?_, ?_, ?_, ?_, ?_, ?_, by omega⟩
     ·rw [← rep_next]
      refine hBx1.apart hKy1 (Sep.symm ?_)
      rw [hEx1]
      exact Sep.new hBy (Nat.le_refl _) _
     ·rw [← rep_next]
      exact hBy2
     ·refine Sep.symm ?_
      rw [hEy1]
      exact Sep.new hBx1 (Nat.le_refl _) _
     all_goals exact Z2
    ·have hd : decide ((k : Int) ≤ 12) = false := by simp; omega
     have hk13 : k = 13 := by omega
     subst hk13
     have hne : (List.replicate 13 wideS).map spC.enc ≠ [] := by simp
     obtain ⟨idx, hux, hgx, hidx⟩ : ∃ id, ux = .row id 0 13 ∧ hp.get id = some (.rw 2 (initS.map spC.enc)) ∧ id < hp.next := by
      rcases hBx with ⟨_, e⟩ | ⟨id, q1, q2, q3, _⟩
      ·exact absurd e hne
      ·exact ⟨id, by simpa using q1, q2, q3⟩
     obtain ⟨idy, huy, hgy, hidy⟩ : ∃ id, uy = .row id 0 13 ∧ hp.get id = some (.rw 2 (initS.map spC.enc)) ∧ id < hp.next := by
      rcases hBy with ⟨_, e⟩ | ⟨id, q1, q2, q3, _⟩
      ·exact absurd e hne
      ·exact ⟨id, by simpa using q1, q2, q3⟩
     have hxy : idx ≠ idy := fun e => hSep idx 0 13 0 13 hux (by rw [huy, e])
     have HXY := Lib.hid hxy
     have HGX := Lib.hid hgx
     have HGY := Lib.hid hgy
     subst hux huy
     clear hne hBx hBy hSep hxy hgx hgy hlt hk
     repeat' (first | refine goS ?_ | refine go2 (fun hh => ?_) (fun hh => ?_) | fail)
     refine W.loopN ms.length (fun j F => ∃ e lm hp cx cy, F = Fr.mk 105 false e lm hp [] none ∧ ownS (·.x) (ms.drop j) cx = ownS (·.x) ms initS ∧ ownS (·.y) (ms.drop j) cy = ownS (·.y) ms initS ∧ cx.length = 13 ∧ cy.length = 13 ∧
      hp.get idx = some (.rw 2 (cx.map spC.enc)) ∧ hp.get idy = some (.rw 2 (cy.map spC.enc)) ∧ lm.get 2 = some (0, [sa, .int .i64 cxl, .int .i64 cxh, .int .i64 cyl, .int .i64 cyh, .int .i64 wxl, .int .i64 wxh, .int .i64 wyl, .int .i64 wyh, ra]) ∧
      e.get 2 = some (.lptr 2 0 0) ∧ e.get 1 = some ma ∧ e.get 7 = some (.row idx 0 13) ∧ e.get 8 = some (.row idy 0 13) ∧ e.get 10 = some (.int .i64 ↑j) ∧ j ≤ ms.length) ?_ ?_
     ·refine ⟨_, _, _, initS, initS, rfl, rfl, rfl, rfl, rfl, HGX.out, HGY.out, ?_, ?_, ?_, ?_, ?_, ?_, ?_⟩ <;> first | exact Z2 | simp [go_sem, *]
     clear hl2 h2 h1 h7 h8 h9 hd hbox hboy HGX HGY hidx hidy
     rintro j F ⟨e, lm, hp, cx, cy, rfl, hcx, hcy, hnx, hny, hgx, hgy, hl2, h2, h1, h7, h8, h10, hj⟩
     have HCX := Lib.hid hcx
     have HCY := Lib.hid hcy
     have HNX := Lib.hid hnx
     have HNY := Lib.hid hny
     clear hcx hcy hnx hny
     by_cases hjt : j < ms.length
     ·obtain ⟨m, hm'⟩ := get_some hjt
      have hix := mark_idx hm hm'
      have hdr : ms.drop j = m :: ms.drop (j + 1) := by
       rw [List.drop_eq_getElem_cons hjt]
       rw [List.getElem?_eq_getElem hjt] at hm'
       rw [Option.some.inj hm']
      have hmb : blkB m = true := List.all_eq_true.1 HBL.out m (List.mem_of_getElem? hm')
      simp only [blkB, inB, Bool.and_eq_true, decide_eq_true_eq] at hmb
      obtain ⟨n, hn⟩ : ∃ n : Nat, m.b = n := ⟨m.b.toNat, by omega⟩
      have hn13 : n < 13 := by omega
      obtain ⟨px, hpx⟩ := get_some (show n < cx.length by rw [HNX.out]; omega)
      obtain ⟨py, hpy⟩ := get_some (show n < cy.length by rw [HNY.out]; omega)
      have hrx := row_at hpx
      have hry := row_at hpy
      have hixx := row_idx hn13 hgx
      have hixy := row_idx hn13 hgy
      have hgy' : ∀ b, (hp.put idx b).get idy = some (.rw 2 (cy.map spC.enc)) := fun b => by
       have h := HXY.out
       rw [← hgy]
       simp [Heap.get, Heap.put, h]
      have hixy' : ∀ b, indexAddrV Tryz.prog (hp.put idx b) 146 (.row idy 0 13) (.int .i64 ↑n) = some (.eptr idy 2 n 0) := fun b => row_idx hn13 (hgy' b)
      have hd : decide ((j : Int) < (ms.length : Int)) = true := by simpa using hjt
      have hw := wrap_succ hjt hmax
      have hnx : ownS (·.x) (ms.drop (j + 1)) (cx.set n (interS px m.x)) = ownS (·.x) ms initS := by
       rw [← HCX.out, hdr]
       have : m.b.toNat = n := by omega
       simp only [ownS, this, getD_of hpx]
      have hny : ownS (·.y) (ms.drop (j + 1)) (cy.set n (interS py m.y)) = ownS (·.y) ms initS := by
       rw [← HCY.out, hdr]
       have : m.b.toNat = n := by omega
       simp only [ownS, this, getD_of hpy]
      have HX := Lib.hid hnx
      have HY := Lib.hid hny
      rw [hn] at hix
      clear hm hm' hdr hmb hpx hpy hnx hny hn
      repeat' (first | (apply W.drawQ (id := 10) (l1 := [0, 1, 2, 3, 4, 5, 6, 7, 8, 9, 10, 11, 12, 13, 14, 15, 16, 17, 18, 19, 20, 21, 22, 23, 24]) (l2 := [25, 26, 27]); kernel_rfl; kernel_rfl; kernel_rfl; exact Z4) | refine go1 ?_ | (apply U6; exact Z1; exact Z1; (focus (simp only [List.nil_append, List.append_nil]; first | exact K158 rfl _ _ _ _ _)); simp only [pM, pN, rR, rP]) | refine go2 (fun hh => ?_) (fun hh => ?_) | fail)
      refine ⟨hjt, _, _, _, cx.set n (interS px m.x), cy.set n (interS py m.y), rfl, HX.out, HY.out, ?_, ?_, ?_, ?_, ?_, ?_, ?_, ?_, ?_, ?_, by omega⟩
      ·rw [List.length_set]; exact HNX.out
      ·rw [List.length_set]; exact HNY.out
      ·have h := HXY.out
       simp [Heap.get, Heap.put, List.map_set, spC, asElem, isAggV, interS, h, Ne.symm h]
      ·have h := HXY.out
       simp [Heap.get, Heap.put, List.map_set, spC, asElem, isAggV, interS, h, Ne.symm h]
      all_goals exact Z2
     ·have hd : decide ((j : Int) < (ms.length : Int)) = false := by simpa using hjt
      have hjl : j = ms.length := by omega
      have hcx : cx = ownS (·.x) ms initS := by
       have := HCX.out
       rw [hjl, List.drop_length] at this
       exact this
      have hcy : cy = ownS (·.y) ms initS := by
       have := HCY.out
       rw [hjl, List.drop_length] at this
       exact this
      have hX : ∀ H : Heap, H.get idx = some (.rw 2 (cx.map spC.enc)) → Cl (dX cW) 159 [.agg [.int .i64 cxl, .int .i64 cxh], .agg [.int .i64 wxl, .int .i64 wxh], .row idx 0 13] H (.ret (.tuple [x, .bool p]) H none) := fun H hg => by
       have := K159 (X := dX cW) rfl ⟨cxl, cxh⟩ ⟨wxl, wxh⟩ cx idx H hg HNX.out
       rw [hcx, HAX.out] at this
       exact this
      have hY : ∀ H : Heap, H.get idy = some (.rw 2 (cy.map spC.enc)) → Cl (dX cW) 159 [.agg [.int .i64 cyl, .int .i64 cyh], .agg [.int .i64 wyl, .int .i64 wyh], .row idy 0 13] H (.ret (.tuple [y, .bool q]) H none) := fun H hg => by
       have := K159 (X := dX cW) rfl ⟨cyl, cyh⟩ ⟨wyl, wyh⟩ cy idy H hg HNY.out
       rw [hcy, HAY.out] at this
       exact this
      have HX := Lib.hid hX
      have HY := Lib.hid hY
      clear hX hY hcx hcy hjl hm
      repeat' (first | refine goS ?_ | (apply U6; exact Z1; exact Z1; (focus (simp only [List.nil_append, List.append_nil]; first | exact HX.out _ (by simp only [go_sem, *, Nat.reduceLT, Int.reduceEq, Int.reduceBEq, Int.reduceLE, Int.reduceLT, Nat.reduceAdd, Nat.reduceBEq, Nat.reduceEqDiff, reduceIte, Nat.reduceLeDiff, Nat.reduceMul, Nat.reduceSub, reduceCtorEq]) | exact HY.out _ (by simp only [go_sem, *, Nat.reduceLT, Int.reduceEq, Int.reduceBEq, Int.reduceLE, Int.reduceLT, Nat.reduceAdd, Nat.reduceBEq, Nat.reduceEqDiff, reduceIte, Nat.reduceLeDiff, Nat.reduceMul, Nat.reduceSub, reduceCtorEq]))); simp only [pM, pN, rR, rP]) | refine go2 (fun hh => ?_) (fun hh => ?_) | fail)
      all_goals (simp only [resV_def (X := dX cW) Tryz.func105, Tryz.results105]; first | exact J5 | refine J6 ?_)
      all_goals simp [*]
   ·cases h
  ·cases h
 ·cases h
end Go.AM
namespace Go.AM
open Go
variable [Keep]
theorem interW {x : Sp} (h1 : -1000 ≤ x.lo) (h2 : x.hi ≤ 1000) : interS wideS x = x :=
 Sp.ext2 (by rw [interS_lo]; simp only [wideS]; omega) (by rw [interS_hi]; simp only [wideS]; omega)
def limOf (sel : Held → Sp) (m : Held) : Lim := ⟨m.b, (sel m).lo, (sel m).hi⟩
theorem own_get (sel : Held → Sp) (k : Nat) : ∀ (ms : List Held) (o : List Sp), k < o.length → (∀ m ∈ ms, 0 ≤ m.b) → (ownS sel ms o).getD k ⟨0, 0⟩ = allS k (ms.map (limOf sel)) (o.getD k ⟨0, 0⟩) := by
 intro ms
 induction ms with
 | nil => intro o _ _; rfl
 | cons m r ih =>
  intro o hk hb
  have hm := hb m (by simp)
  simp only [ownS, List.map_cons, allS]
  rw [ih _ (by simpa using hk) (fun m' h' => hb m' (by simp [h']))]
  by_cases e : m.b = (k : Int)
  ·have hn : m.b.toNat = k := by omega
   have h1 : ((limOf sel m).b == (k : Int)) = true := by simp [limOf, e]
   rw [if_pos h1, hn]
   rw [getD_set_same hk]
   rfl
  ·have hn : m.b.toNat ≠ k := by omega
   have h1 : ¬ ((limOf sel m).b == (k : Int)) = true := by simp [limOf, e]
   rw [if_neg h1]
   rw [getD_set_ne hn]
theorem onR_lim (c w : Sp) (L : List Lim) (l : List Sp) : ∀ n, onR ⟨c, w, []⟩ n l = onR ⟨c, w, L⟩ n l := by
 intro n
 induction n with
 | zero => rfl
 | succ n ih =>
  simp only [onR]
  rw [ih]
  rfl
theorem backS_lim (c w : Sp) (L : List Lim) : ∀ n (l : List Sp), backS ⟨c, w, []⟩ n l = backS ⟨c, w, L⟩ n l := by
 intro n
 induction n with
 | zero => intro l; rfl
 | succ n ih =>
  intro l
  simp only [backS]
  rw [ih]
  rfl
theorem on_own (ax : Ax) (own : List Sp) (h13 : own.length = 13) (hown : ∀ k, k < 13 → own.getD k ⟨0, 0⟩ = allS k ax.limits wideS) (hc : -1000 ≤ ax.chuck.lo ∧ ax.chuck.hi ≤ 1000)
  (hn : ∀ k, k < 12 → -1000 ≤ (nxtS ax (onS ax k)).lo ∧ (nxtS ax (onS ax k)).hi ≤ 1000) : ∀ n, n ≤ 12 → (∀ j, j ≤ n → (onR ax n own).getD j ⟨0, 0⟩ = onS ax j) ∧ (∀ j, n < j → (onR ax n own).getD j ⟨0, 0⟩ = own.getD j ⟨0, 0⟩) := by
 intro n
 induction n with
 | zero =>
  intro _
  refine ⟨fun j hj => ?_, fun j hj => ?_⟩
  ·have : j = 0 := by omega
   subst this
   simp only [onR]
   rw [getD_set_same (by omega), hown 0 (by omega), allS_inter, interW hc.1 hc.2]
   rfl
  ·simp only [onR]
   rw [getD_set_ne (by omega)]
 | succ n ih =>
  intro hn12
  obtain ⟨h1, h2⟩ := ih (by omega)
  refine ⟨fun j hj => ?_, fun j hj => ?_⟩
  ·by_cases e : j = n + 1
   ·subst e
    have hl : (onR ax n own).length = 13 := by rw [onR_len, h13]
    have : (onR ax (n + 1) own).getD (n + 1) ⟨0, 0⟩ = interS ((onR ax n own).getD (n + 1) ⟨0, 0⟩) (nxtS ax ((onR ax n own).getD n ⟨0, 0⟩)) := by
     simp only [onR]
     rw [getD_set_same (by omega)]
    rw [this, h2 (n + 1) (by omega), h1 n (Nat.le_refl _), hown (n + 1) (by omega), allS_inter]
    obtain ⟨b1, b2⟩ := hn n (by omega)
    rw [interW b1 b2]
    rfl
   ·have : (onR ax (n + 1) own).getD j ⟨0, 0⟩ = (onR ax n own).getD j ⟨0, 0⟩ := by
     simp only [onR]
     rw [getD_set_ne (fun e' => e e'.symm)]
    rw [this, h1 j (by omega)]
  ·have : (onR ax (n + 1) own).getD j ⟨0, 0⟩ = (onR ax n own).getD j ⟨0, 0⟩ := by
    simp only [onR]
    rw [getD_set_ne (by omega)]
   rw [this, h2 j (by omega)]
def axO : Option (List Sp) → AV
 | none => .tuple [.nilslice, .bool false]
 | some t => .tuple [slN (t.map spC.enc), .bool true]
structure Good (c w : Sp) (L : List Lim) : Prop where
 c1 : -12 ≤ c.lo
 c2 : c.lo ≤ c.hi
 c3 : c.hi ≤ 12
 w1 : -3 ≤ w.lo
 w2 : w.lo ≤ w.hi
 w3 : w.hi ≤ 3
 l : ∀ m ∈ L, -104 ≤ m.lo ∧ m.lo ≤ 104 ∧ -104 ≤ m.hi ∧ m.hi ≤ 104
theorem allS_bd (b A B : Int) (hB : 104 ≤ B) (hA : A ≤ 104) : ∀ (L : List Lim) (s : Sp), (∀ m ∈ L, -104 ≤ m.lo ∧ m.lo ≤ 104 ∧ -104 ≤ m.hi ∧ m.hi ≤ 104) → A ≤ s.lo ∧ s.lo ≤ B ∧ -B ≤ s.hi ∧ s.hi ≤ -A →
  A ≤ (allS b L s).lo ∧ (allS b L s).lo ≤ B ∧ -B ≤ (allS b L s).hi ∧ (allS b L s).hi ≤ -A := by
 intro L
 induction L with
 | nil => intro s _ h; exact h
 | cons m r ih =>
  intro s hL h
  simp only [allS]
  split
  ·refine ih _ (fun m' h' => hL m' (by simp [h'])) ?_
   have := hL m (by simp)
   simp only [interS_lo, interS_hi, Lim.sp]
   omega
  ·exact ih _ (fun m' h' => hL m' (by simp [h'])) h
theorem nxt_small {c w : Sp} {L : List Lim} (g : Good c w L) {s : Sp} {A B : Int} (hA : -1000 ≤ A) (hB : B ≤ 1000) (h : A ≤ s.lo ∧ s.lo ≤ B ∧ -B ≤ s.hi ∧ s.hi ≤ -A) :
  (nxtS ⟨c, w, L⟩ s).lo = s.lo + w.lo ∧ (nxtS ⟨c, w, L⟩ s).hi = s.hi + w.hi := by
 have g1 := g.w1
 have g2 := g.w2
 have g3 := g.w3
 show w64 (s.lo + w.lo) = _ ∧ w64 (s.hi + w.hi) = _
 exact ⟨wrap_small (by omega) (by omega), wrap_small (by omega) (by omega)⟩
theorem on_bd {c w : Sp} {L : List Lim} (g : Good c w L) : ∀ k : Nat, k ≤ 13 → -12 - 3 * (k : Int) ≤ (onS ⟨c, w, L⟩ k).lo ∧ (onS ⟨c, w, L⟩ k).lo ≤ 104 + 3 * (k : Int) ∧ -(104 + 3 * (k : Int)) ≤ (onS ⟨c, w, L⟩ k).hi ∧ (onS ⟨c, w, L⟩ k).hi ≤ -(-12 - 3 * (k : Int)) := by
 intro k
 induction k with
 | zero =>
  intro _
  have := g.c1
  have := g.c2
  have := g.c3
  exact allS_bd _ _ _ (by omega) (by omega) L c g.l (by omega)
 | succ k ih =>
  intro hk
  have h := ih (by omega)
  obtain ⟨e1, e2⟩ := nxt_small g (by omega) (by omega) h
  have := g.w1
  have := g.w2
  have := g.w3
  refine allS_bd _ _ _ (by omega) (by omega) L (nxtS ⟨c, w, L⟩ (onS ⟨c, w, L⟩ k)) g.l ?_
  rw [e1, e2]
  omega
theorem axis_ref {c w : Sp} {L : List Lim} (g : Good c w L) (own : List Sp) (h13 : own.length = 13) (hown : ∀ k, k < 13 → own.getD k ⟨0, 0⟩ = allS k L wideS) : axisV ⟨c, w, []⟩ own = axO (boundsS ⟨c, w, L⟩) := by
 have hc1 := g.c1
 have hc2 := g.c2
 have hc3 := g.c3
 have hw2 := g.w2
 have hw1 := g.w1
 have hw3 := g.w3
 have hnx : ∀ k : Nat, k < 12 → (nxtS ⟨c, w, L⟩ (onS ⟨c, w, L⟩ k)).lo = (onS ⟨c, w, L⟩ k).lo + w.lo ∧ (nxtS ⟨c, w, L⟩ (onS ⟨c, w, L⟩ k)).hi = (onS ⟨c, w, L⟩ k).hi + w.hi :=
  fun k hk => nxt_small g (by omega) (by omega) (on_bd g k (by omega))
 have hb := bounds_ref ⟨c, w, L⟩ (by simp [empS]; omega) (fun k hk he => by
  obtain ⟨e1, e2⟩ := hnx k hk
  simp only [empS, decide_eq_false_iff_not] at *
  rw [e1, e2]
  omega)
 obtain ⟨o1, _⟩ := on_own ⟨c, w, L⟩ own h13 hown (show -1000 ≤ c.lo ∧ c.hi ≤ 1000 by omega) (fun k hk => by
  obtain ⟨e1, e2⟩ := hnx k hk
  have := on_bd g k (by omega)
  rw [e1, e2]
  omega) 12 (Nat.le_refl _)
 have hlist : onR ⟨c, w, L⟩ 12 own = (List.range 13).map (onS ⟨c, w, L⟩) := by
  apply List.ext_getElem
  ·rw [onR_len, h13]; simp
  ·intro j h1 h2
   have hj : j < 13 := by simpa using h2
   have := o1 j (by omega)
   simp only [List.getD, List.getElem?_eq_getElem h1, Option.getD_some] at this
   rw [this]
   simp
 rw [hb]
 unfold axisV refS lookS
 rw [onR_lim c w L, backS_lim c w L, hlist]
 split <;> rfl
theorem lims_155 (rs : List Rdg) : (marksOf rs).map (limOf (·.x)) = lims155 rs := by simp [marksOf, lims155, limOf]
theorem lims_156 (rs : List Rdg) : (marksOf rs).map (limOf (·.y)) = lims156 rs := by simp [marksOf, lims156, limOf]
theorem span_of {lo hi a b wide : Int} (h : spanB lo hi a b wide = true) : a ≤ lo ∧ lo ≤ hi ∧ hi ≤ b := by
 simp only [spanB, Bool.and_eq_true, decide_eq_true_eq] at h
 omega
theorem rdg_of {p : Rdg} (h : okRdg p = true) : 0 ≤ p.b ∧ p.b ≤ 12 ∧ -80 ≤ p.x ∧ p.x ≤ 80 ∧ -80 ≤ p.y ∧ p.y ≤ 80 ∧ 0 ≤ p.err ∧ p.err ≤ 4 := by
 have e : w64 (-80) = -80 := rfl
 simp only [okRdg, okPt, inB, e, Bool.and_eq_true, decide_eq_true_eq] at h
 omega
theorem init_get {k : Nat} (hk : k < 13) : initS.getD k ⟨0, 0⟩ = wideS := by
 unfold initS
 rw [List.getD, List.getElem?_replicate, if_pos hk]
 rfl
section
variable {st : List Pt} {cx cy wx wy : Sp} {rs : List Rdg} (h : machB st cx cy wx wy rs = true)
include h
theorem mach_rdg : ∀ p ∈ rs, okRdg p = true := by
 intro p hp
 simp only [machB, Bool.and_eq_true] at h
 have := h.2
 simp only [Bool.not_eq_true'] at this
 have := List.any_eq_false.1 this p hp
 simpa using this
theorem good_x : Good cx wx (lims155 rs) := by
 have e1 : w64 (-12) = -12 := rfl
 have e2 : w64 (-3) = -3 := rfl
 have hr := mach_rdg h
 simp only [machB, Bool.and_eq_true, e1, e2] at h
 have h1 := span_of h.1.1.1.1.1.2
 have h2 := span_of h.1.1.1.2
 refine ⟨h1.1, h1.2.1, h1.2.2, h2.1, h2.2.1, h2.2.2, fun m hm => ?_⟩
 obtain ⟨p, hp, rfl⟩ := List.mem_map.1 hm
 have := rdg_of (hr p hp)
 have a1 : w64 (p.x - p.err) = p.x - p.err := wrap_small (by omega) (by omega)
 have a2 : w64 (p.x + p.err) = p.x + p.err := wrap_small (by omega) (by omega)
 simp only [a1, a2]
 omega
theorem good_y : Good cy wy (lims156 rs) := by
 have e1 : w64 (-12) = -12 := rfl
 have e2 : w64 (-3) = -3 := rfl
 have hr := mach_rdg h
 simp only [machB, Bool.and_eq_true, e1, e2] at h
 have h1 := span_of h.1.1.1.1.2
 have h2 := span_of h.1.1.2
 refine ⟨h1.1, h1.2.1, h1.2.2, h2.1, h2.2.1, h2.2.2, fun m hm => ?_⟩
 obtain ⟨p, hp, rfl⟩ := List.mem_map.1 hm
 have := rdg_of (hr p hp)
 have a1 : w64 (p.y - p.err) = p.y - p.err := wrap_small (by omega) (by omega)
 have a2 : w64 (p.y + p.err) = p.y + p.err := wrap_small (by omega) (by omega)
 simp only [a1, a2]
 omega
theorem marks_blk : (marksOf rs).all blkB = true := by
 refine List.all_eq_true.2 fun m hm => ?_
 obtain ⟨p, hp, rfl⟩ := List.mem_map.1 hm
 have := rdg_of (mach_rdg h p hp)
 simp [blkB, inB]
 omega
theorem marks_pos : ∀ m ∈ marksOf rs, 0 ≤ m.b := by
 intro m hm
 obtain ⟨p, hp, rfl⟩ := List.mem_map.1 hm
 exact (rdg_of (mach_rdg h p hp)).1
theorem axisX : axisV ⟨cx, wx, []⟩ (ownS (·.x) (marksOf rs) initS) = axO (boundsS (ax0 cx wx rs [])) := by
 have : ax0 cx wx rs [] = ⟨cx, wx, lims155 rs⟩ := by simp [ax0]
 rw [this]
 refine axis_ref (good_x h) _ (by rw [ownS_len]; rfl) (fun k hk => ?_)
 rw [own_get _ k _ _ (by exact hk) (marks_pos h), lims_155]
 rw [init_get hk]
theorem axisY : axisV ⟨cy, wy, []⟩ (ownS (·.y) (marksOf rs) initS) = axO (boundsS (ax1 cy wy rs [])) := by
 have : ax1 cy wy rs [] = ⟨cy, wy, lims156 rs⟩ := by simp [ax1]
 rw [this]
 refine axis_ref (good_y h) _ (by rw [ownS_len]; rfl) (fun k hk => ?_)
 rw [own_get _ k _ _ (by exact hk) (marks_pos h), lims_156]
 rw [init_get hk]
end
end Go.AM
namespace Go.AM
open Go Go.Proofs
variable [Keep]
attribute [local irreducible] W WO WO1 WD WQ WT thenQ blockQ endR isRet retK Cl ClR
attribute [local irreducible] axisV bothV boundsS machB
theorem K105 {X : Ctx} (hX : X.intr 105 = some (pureFn sp105)) (sa ra ma : AV) (st : List Pt) (rs : List Rdg) (ms : List Held) (cx cy wx wy : Sp) (hl : slV ptC sa = some st) (hr : slV rdgC ra = some rs) (hm : slV heldC ma = some ms) (hb : ms.all blkB = true) (h : Heap) :
  Cl X 105 [.agg [sa, .int .i64 cx.lo, .int .i64 cx.hi, .int .i64 cy.lo, .int .i64 cy.hi, .int .i64 wx.lo, .int .i64 wx.hi, .int .i64 wy.lo, .int .i64 wy.hi, ra], ma] h (.ret (bothV cx cy wx wy ms) h none) :=
 Cl.intr hX (by simp [pureFn, AV.pur, AV.purL, sl_pur hl, sl_pur hr, sl_pur hm, sp105, hl, hr, hm, hb])
theorem axO_is (o : Option (List Sp)) : ∃ x, axO o = .tuple [x, .bool o.isSome] ∧ outV (some x) = some x ∧ isTuple x = false ∧ ∀ t, o = some t → t.length = 13 → x = .vslice (t.map spC.enc) := by
 cases o with
 | none => exact ⟨_, rfl, rfl, rfl, fun t h => by cases h⟩
 | some t =>
  refine ⟨_, rfl, (slN_is _).out, (slN_is _).tup, fun t' h h13 => ?_⟩
  cases h
  cases t with
  | nil => simp at h13
  | cons a r => rfl
theorem bothV_mach {st : List Pt} {cx cy wx wy : Sp} {rs : List Rdg} (h : machB st cx cy wx wy rs = true) : ∃ x y, bothV cx cy wx wy (marksOf rs) = .tuple [x, y, .bool ((boundsS (ax0 cx wx rs [])).isSome && (boundsS (ax1 cy wy rs [])).isSome)] ∧
  outV (some x) = some x ∧ outV (some y) = some y ∧ isTuple x = false ∧ isTuple y = false ∧ (∀ t, boundsS (ax0 cx wx rs []) = some t → x = .vslice (t.map spC.enc)) ∧ (∀ t, boundsS (ax1 cy wy rs []) = some t → y = .vslice (t.map spC.enc)) := by
 obtain ⟨x, e1, e2, e3, e4⟩ := axO_is (boundsS (ax0 cx wx rs []))
 obtain ⟨y, f1, f2, f3, f4⟩ := axO_is (boundsS (ax1 cy wy rs []))
 refine ⟨x, y, ?_, e2, f2, e3, f3, fun t ht => e4 t ht (boundsS_len ht), fun t ht => f4 t ht (boundsS_len ht)⟩
 unfold bothV
 rw [axisX h, axisY h, e1, f1]
 rfl
noncomputable def cP1 : Itr
 | 105 => some (pureFn sp105)
 | 106 => some (pureFn sp106)
 | _ => none
theorem cP1_sound : Sound (dX cP1) := dX_sound (fun f g h => by
 unfold cP1 at h
 split at h
 ·cases h; exact F105
 ·cases h; exact F106
 ·cases h)
def sp104 : List AV → Option AV
 | [.agg [sa, .int .i64 cxl, .int .i64 cxh, .int .i64 cyl, .int .i64 cyh, .int .i64 wxl, .int .i64 wxh, .int .i64 wyl, .int .i64 wyh, ra]] => match slV ptC sa, slV rdgC ra with
  | some st, some rs => if machB st ⟨cxl, cxh⟩ ⟨cyl, cyh⟩ ⟨wxl, wxh⟩ ⟨wyl, wyh⟩ rs = true then some (.bool ((boundsS (ax0 ⟨cxl, cxh⟩ ⟨wxl, wxh⟩ rs [])).isSome && (boundsS (ax1 ⟨cyl, cyh⟩ ⟨wyl, wyh⟩ rs [])).isSome)) else none
  | _, _ => none
 | _ => none
theorem p104 : ∀ args v, sp104 args = some v → v.pur = true := by
 intro args v h
 unfold sp104 at h
 split at h
 ·split at h
  ·split at h
   ·cases h; rfl
   ·cases h
  ·cases h
 ·cases h
theorem slH_marks {rs : List Rdg} {ra : AV} (hr : slV rdgC ra = some rs) : slV heldC (slN ((marksOf rs).map heldC.enc)) = some (marksOf rs) := slV_slN (by simpa [marksOf] using sl_max hr)
set_option maxHeartbeats 1000000 in
theorem F104 : IntrFn Tryz.prog 104 (pureFn sp104) := by
 refine pure_fn (X := dX cP1) cP1_sound p104 ?_
 intro args v h
 unfold sp104 at h
 split at h
 ·rename_i sa cxl cxh cyl cyh wxl wxh wyl wyh ra
  split at h
  ·rename_i st rs hl hr
   split at h
   ·rename_i hok
    cases h
    obtain ⟨x, y, hv, hox, hoy, htx, hty, _, _⟩ := bothV_mach hok
    have hout := sl_out hr
    have hout2 := sl_out hl
    have h106 := fun hp => K106 (X := dX cP1) rfl sa ra st rs ⟨cxl, cxh⟩ ⟨cyl, cyh⟩ ⟨wxl, wxh⟩ ⟨wyl, wyh⟩ hl hr hp
    have hb := fun hp => K105 (X := dX cP1) rfl sa ra _ st rs _ ⟨cxl, cxh⟩ ⟨cyl, cyh⟩ ⟨wxl, wxh⟩ ⟨wyl, wyh⟩ hl hr (slH_marks hr) (marks_blk hok) hp
    rw [hv] at hb
    have hso := (slN_is ((marksOf rs).map heldC.enc)).out
    have hst := (slN_is ((marksOf rs).map heldC.enc)).tup
    generalize slN ((marksOf rs).map heldC.enc) = ma at *
    generalize ((boundsS (ax0 ⟨cxl, cxh⟩ ⟨wxl, wxh⟩ rs [])).isSome && (boundsS (ax1 ⟨cyl, cyh⟩ ⟨wyl, wyh⟩ rs [])).isSome) = b at *
    have H106 := Lib.hid h106
    have HB := Lib.hid hb
    clear h106 hb hv hl hr hok
    refine ClR.walk (c := _) rfl Tryz.func104 rfl (by kernel_rfl) rfl isRet_fail ?_
    simp only [entryEnv, Nat.reduceAdd]
    repeat' (first | (apply W.drawQ (id := 1) (l1 := [0, 1, 2, 3, 4, 5, 6, 7, 8, 9, 10]) (l2 := []); kernel_rfl; kernel_rfl; kernel_rfl; exact Z4) | refine go1 ?_ | (apply U6; exact Z1; exact Z1; (focus (simp only [List.nil_append, List.append_nil]; first | exact HB.out _ | exact H106.out _)); simp only [pM, pN, rR, rP]) | refine go2 (fun hh => ?_) (fun hh => ?_) | fail)
    all_goals (simp only [resV_def (X := dX cP1) Tryz.func104, Tryz.results104]; first | exact J5 | refine J6 ?_)
   ·cases h
  ·cases h
 ·cases h
noncomputable def cP2 : Itr
 | 71 => some (flatFn sp71)
 | 104 => some (pureFn sp104)
 | _ => none
theorem cP2_sound : Sound (dX cP2) := dX_sound (fun f g h => by
 unfold cP2 at h
 split at h
 ·cases h; exact F71
 ·cases h; exact F104
 ·cases h)
def slLen : AV → Option Nat
 | .nilslice => some 0
 | .vempty => some 0
 | .vslice l => some l.length
 | _ => none
theorem slLen_is {a : AV} {n : Nat} (h : slLen a = some n) : lenS a = some n ∧ outV (some a) = some a ∧ isTuple a = false := by
 unfold slLen at h
 split at h <;> first | (cases h; exact ⟨rfl, rfl, rfl⟩) | cases h
def sp38 : List AV → Option AV
 | [.agg [sa, .int .i64 cxl, .int .i64 cxh, .int .i64 cyl, .int .i64 cyh, .int .i64 wxl, .int .i64 wxh, .int .i64 wyl, .int .i64 wyh, ra]] => match slLen sa, slLen ra with
  | some m, some n => some (.bool (decide ((m : Int) ≤ 6) && decide ((n : Int) ≤ 6)))
  | _, _ => none
 | _ => none
theorem F38 : IntrFn Tryz.prog 38 (pureFn sp38) := by
 refine pure_fn (X := dX cP2) cP2_sound (fun a v h => by
  unfold sp38 at h
  split at h
  ·split at h
   ·cases h; rfl
   ·cases h
  ·cases h) ?_
 intro args v h
 unfold sp38 at h
 split at h
 ·rename_i sa cxl cxh cyl cyh wxl wxh wyl wyh ra
  split at h
  ·rename_i m n hl hr
   cases h
   obtain ⟨h1, h2, h3⟩ := slLen_is hl
   obtain ⟨g1, g2, g3⟩ := slLen_is hr
   clear hl hr
   refine ClR.walk (c := _) rfl Tryz.func38 rfl (by kernel_rfl) rfl isRet_fail ?_
   simp only [entryEnv, Nat.reduceAdd]
   repeat' (first | refine goS ?_ | refine go2 (fun hh => ?_) (fun hh => ?_) | fail)
   all_goals (simp only [resV_def (X := dX cP2) Tryz.func38, Tryz.results38]; first | exact J5 | refine J6 ?_)
   all_goals simp [*]
  ·cases h
 ·cases h
end Go.AM
namespace Go.AM
open Go Go.Proofs
variable [Keep]
attribute [local irreducible] W WO WO1 WD WQ WT thenQ blockQ endR isRet retK Cl ClR
theorem slLen_mk {a : AV} {es : List AV} (h : isSl a es) : slLen a = some es.length := by rcases h with ⟨rfl | rfl, rfl⟩ | rfl <;> rfl
end Go.AM
namespace Go.AM
open Go Go.Proofs
variable [Keep]
attribute [local irreducible] W WO WO1 WD WQ WT thenQ blockQ endR isRet retK Cl ClR
attribute [local irreducible] machB textM readM
noncomputable def c22 : Itr
 | 38 => some (pureFn sp38)
 | 71 => some (flatFn sp71)
 | 82 => some (pureFn sp82)
 | 83 => some (pureFn sp83)
 | 84 => some (flatFnD sp140)
 | 85 => some (flatFn sp85)
 | f => c25 cK f
theorem K71m {X : Ctx} (hX : X.intr 71 = some (flatFn sp71)) {sa ra : AV} {m : Mc} (hl : slV ptC sa = some m.st) (hr : slV rdgC ra = some m.rs) (h : Heap) : Cl X 71 [mcA sa ra m] h (.ret (.bool m.mach) h none) := by
 have := K71 hX sa ra m.st m.rs m.cx m.cy m.wx m.wy hl hr h
 rw [machR_B] at this
 exact this
theorem mc_short {m : Mc} (h : m.mach = true) : (textM m).length ≤ 300 := by
 obtain ⟨h1, h2, h3⟩ := m.mach_ok h
 exact text_short h1 h2 h3
theorem mc_rd {m : Mc} (h : m.mach = true) : rdV83 (textM m) = .tuple [mcV m, .int .i64 0] := by
 obtain ⟨h1, h2, h3⟩ := m.mach_ok h
 exact rd_some (by have := mc_short h; omega) (readM_text h1 ⟨by omega, by omega⟩) h
theorem pr_yes {m : Mc} (h : m.mach = true) : prV m = .tuple [.str (textM m), .int .i64 0] := by unfold prV; rw [h]; rfl
theorem pr_no {m : Mc} (h : m.mach = false) : prV m = .tuple [.str [], .int .i64 2] := by unfold prV; rw [h]; rfl
set_option maxHeartbeats 8000000 in
theorem T22 (sa ra : AV) (cx cy wx wy : Sp) (st : List Pt) (rs : List Rdg) (hl : isSl sa (st.map ptC.enc)) (hr : isSl ra (rs.map rdgC.enc)) :
  ClR (dX c22) 22 [.agg [sa, .int .i64 cx.lo, .int .i64 cx.hi, .int .i64 cy.lo, .int .i64 cy.hi, .int .i64 wx.lo, .int .i64 wx.hi, .int .i64 wy.lo, .int .i64 wy.hi, ra]] emptyHp (isRet (.bool true)) := by
 have o2 := hl.out
 have o3 := hr.out
 have t2 := hl.tup
 have t3 := hr.tup
 have hp1 := hl.pur (enc_pur ptC st)
 have hp2 := hr.pur (enc_pur rdgC rs)
 have on : ∀ {a : AV} {es : List AV}, isSl a es → a.one = true := fun h => by rcases h with ⟨rfl | rfl, _⟩ | rfl <;> rfl
 have n2 := on hl
 have n3 := on hr
 have k25 : ∀ h, Cl (dX c22) 25 [] h (.ret (.bool true) h none) := fun h => K25 rfl h
 have k38 : ∀ h, Cl (dX c22) 38 [.agg [sa, .int .i64 cx.lo, .int .i64 cx.hi, .int .i64 cy.lo, .int .i64 cy.hi, .int .i64 wx.lo, .int .i64 wx.hi, .int .i64 wy.lo, .int .i64 wy.hi, ra]] h (.ret (.bool (decide ((st.length : Int) ≤ 6) && decide ((rs.length : Int) ≤ 6))) h none) := fun h => by
  have h1 := slLen_mk hl
  have h2 := slLen_mk hr
  rw [List.length_map] at h1 h2
  exact Cl.intr (g := pureFn sp38) rfl (by simp [pureFn, AV.pur, AV.purL, hp1, hp2, sp38, h1, h2])
 simp only [isTuple] at t2 t3
 by_cases g : (decide ((st.length : Int) ≤ 6) && decide ((rs.length : Int) ≤ 6)) = true
 ·rw [g] at k38
  simp only [Bool.and_eq_true, decide_eq_true_eq] at g
  have v2 : slV ptC sa = some st := slV_mk hl (by unfold maxL; omega)
  have v3 : slV rdgC ra = some rs := slV_mk hr (by unfold maxL; omega)
  obtain ⟨m, hm⟩ : ∃ m : Mc, m = ⟨st, cx, cy, wx, wy, rs⟩ := ⟨_, rfl⟩
  have v2 : slV ptC sa = some m.st := by rw [hm]; exact v2
  have v3 : slV rdgC ra = some m.rs := by rw [hm]; exact v3
  have k71 := fun h => K71m (X := dX c22) rfl v2 v3 h
  have k82 := fun h => K82 (X := dX c22) rfl v2 v3 h
  have eA : mcA sa ra m = .agg [sa, .int .i64 cx.lo, .int .i64 cx.hi, .int .i64 cy.lo, .int .i64 cy.hi, .int .i64 wx.lo, .int .i64 wx.hi, .int .i64 wy.lo, .int .i64 wy.hi, ra] := by rw [hm]; rfl
  rw [eA] at k71 k82
  cases hb : m.mach with
  | false =>
   rw [hb] at k71
   rw [pr_no hb] at k82
   have q0 : (([] : List UInt8) == []) = true := rfl
   have q1 : ((2 : Int) == 2) = true := rfl
   have tt : (true && true) = true := rfl
   clear hl hr hp1 hp2 v2 v3 eA hm hb g
   refine ClR.walk (c := _) rfl Tryz.func22 rfl (by kernel_rfl) rfl isRet_fail ?_
   simp only [entryEnv, Nat.reduceAdd, emptyHp]
   repeat' (first | refine goS ?_ | (apply U6; exact Z1; exact Z1; (focus (simp only [List.nil_append, List.append_nil]; first | exact k25 _ | exact k38 _ | exact k71 _ | exact k82 _)); simp only [pM, pN, rR, rP]) | refine go2 (fun hh => ?_) (fun hh => ?_) | fail)
   all_goals (simp only [resV_def (X := dX c22) Tryz.func22, Tryz.results22]; first | exact J5 | refine J6 ?_)
  | true =>
   rw [hb] at k71
   rw [pr_yes hb] at k82
   have k83 := fun h => K83 (X := dX c22) rfl (textM m) (by have := mc_short hb; omega) h
   rw [mc_rd hb] at k83
   have k84 := fun h => K84 (X := dX c22) rfl (SeeV.of v2 h) (SeeV.of v3 h) (m.mach_okM hb)
   obtain ⟨hs, hz1, hz2⟩ := m.mach_ok hb
   obtain ⟨f1, y1, y2, y3, y4⟩ := slN_parts ptC m.st
   obtain ⟨f2, x1, x2, x3, x4⟩ := slN_parts rdgC m.rs
   have s1 := slN_sl ptC m.st (by unfold maxL; omega)
   have s2 := slN_sl rdgC m.rs (by unfold maxL; omega)
   have k85 := fun h => K85 (X := dX c22) rfl _ _ sa ra m s1 s2 v2 v3 (by omega) (by omega) h
   have eB : mcA (slN (m.st.map ptC.enc)) (slN (m.rs.map rdgC.enc)) m = mcV m := rfl
   rw [eB, eA] at k85
   have eC : mcV m = .agg [slN (m.st.map ptC.enc), .int .i64 cx.lo, .int .i64 cx.hi, .int .i64 cy.lo, .int .i64 cy.hi, .int .i64 wx.lo, .int .i64 wx.hi, .int .i64 wy.lo, .int .i64 wy.hi, slN (m.rs.map rdgC.enc)] := by rw [hm]; rfl
   rw [eC] at k83 k85
   have k84 : ∀ h, Cl (dX c22) 84 [.agg [sa, .int .i64 cx.lo, .int .i64 cx.hi, .int .i64 cy.lo, .int .i64 cy.hi, .int .i64 wx.lo, .int .i64 wx.hi, .int .i64 wy.lo, .int .i64 wy.hi, ra]] h (.ret (.str (textM m)) h none) := fun h => by
    have := k84 h
    rw [hm] at this ⊢
    exact this
   have q0 : (textM m == textM m) = true := beq_self_eq_true _
   have q1 : ((0 : Int) == 0) = true := rfl
   have tt : (true && true) = true := rfl
   clear hl hr hp1 hp2 v2 v3 eA eB eC hm hb g hs hz1 hz2 s1 s2
   generalize textM m = tx at *
   generalize slN (m.st.map ptC.enc) = ua at *
   generalize slN (m.rs.map rdgC.enc) = va at *
   refine ClR.walk (c := _) rfl Tryz.func22 rfl (by kernel_rfl) rfl isRet_fail ?_
   simp only [entryEnv, Nat.reduceAdd, emptyHp]
   repeat' (first | refine goS ?_ | (apply U6; exact Z1; exact Z1; (focus (simp only [List.nil_append, List.append_nil]; first | exact k25 _ | exact k38 _ | exact k71 _ | exact k82 _ | exact k83 _ | exact k84 _ | exact k85 _)); simp only [pM, pN, rR, rP]) | refine go2 (fun hh => ?_) (fun hh => ?_) | fail)
   all_goals (simp only [resV_def (X := dX c22) Tryz.func22, Tryz.results22]; first | exact J5 | refine J6 ?_)
 ·have g : (decide ((st.length : Int) ≤ 6) && decide ((rs.length : Int) ≤ 6)) = false := by simpa using g
  rw [g] at k38
  clear hl hr hp1 hp2 g
  refine ClR.walk (c := _) rfl Tryz.func22 rfl (by kernel_rfl) rfl isRet_fail ?_
  simp only [entryEnv, Nat.reduceAdd, emptyHp]
  repeat' (first | refine goS ?_ | (apply U6; exact Z1; exact Z1; (focus (simp only [List.nil_append, List.append_nil]; first | exact k25 _ | exact k38 _)); simp only [pM, pN, rR, rP]) | refine go2 (fun hh => ?_) (fun hh => ?_) | fail)
  all_goals (simp only [resV_def (X := dX c22) Tryz.func22, Tryz.results22]; first | exact J5 | refine J6 ?_)
end Go.AM
namespace Go.AM
open Go Go.Proofs
variable [Keep]
attribute [local irreducible] W WO WO1 WD WQ WT thenQ blockQ endR isRet retK Cl ClR
attribute [local irreducible] machB textM readM refRead
noncomputable def c23 : Itr
 | 71 => some (flatFn sp71)
 | 82 => some (pureFn sp82)
 | 83 => some (pureFn sp83)
 | 85 => some (flatFn sp85)
 | 86 => some (pureFn sp86)
 | f => c25 cK f
theorem K85z {X : Ctx} (hX : X.intr 85 = some (flatFn sp85)) (h : Heap) : Cl X 85 [.agg [.nilslice, .int .i64 0, .int .i64 0, .int .i64 0, .int .i64 0, .int .i64 0, .int .i64 0, .int .i64 0, .int .i64 0, .nilslice], .agg [.nilslice, .int .i64 0, .int .i64 0, .int .i64 0, .int .i64 0, .int .i64 0, .int .i64 0, .int .i64 0, .int .i64 0, .nilslice]] h (.ret (.bool true) h none) :=
 K85 hX .nilslice .nilslice .nilslice .nilslice m0 rfl rfl rfl rfl (by decide) (by decide) h
set_option maxHeartbeats 8000000 in
theorem T23 (s : List UInt8) : ClR (dX c23) 23 [.str s] emptyHp (isRet (.bool true)) := by
 have k25 : ∀ h, Cl (dX c23) 25 [] h (.ret (.bool true) h none) := fun h => K25 rfl h
 by_cases hlen : s.length ≤ 400
 ·have h400 : decide ((s.length : Int) > 400) = false := by simp only [decide_eq_false_iff_not]; omega
  have k83 := fun h => K83 (X := dX c23) rfl s hlen h
  have k86 := fun h => K86 (X := dX c23) rfl s hlen h
  have k85z := fun h => K85z (X := dX c23) rfl h
  have tt : (true && true) = true := rfl
  have hrs := read_some (s := s) hlen
  have hrn := read_none (s := s)
  have hrl : ∀ m, refRead s = (m, true) → textM m = s := fun m h => (ref_is h).1
  have hre : refRead s = ((refRead s).1, (refRead s).2) := rfl
  generalize hxq : (refRead s).1 = x at *
  generalize hbq : (refRead s).2 = bq at *
  obtain ⟨f1, y1, y2, y3, y4⟩ := slN_parts ptC x.st
  obtain ⟨f2, x1, x2, x3, x4⟩ := slN_parts rdgC x.rs
  by_cases hlong : 300 < s.length
  ·have h300 : decide ((s.length : Int) > 300) = true := by simp only [decide_eq_true_eq]; omega
   rw [rd_long hlong] at k83
   unfold zeroM at k83
   unfold mcV at k86
   have q0 : ((3 : Int) != 0) = true := rfl
   have q1 : ((3 : Int) == 3) = true := rfl
   clear hlen hrs hrn hrl hre hxq hbq hlong
   generalize slN (x.st.map ptC.enc) = ua at *
   generalize slN (x.rs.map rdgC.enc) = va at *
   refine ClR.walk (c := _) rfl Tryz.func23 rfl (by kernel_rfl) rfl isRet_fail ?_
   simp only [entryEnv, Nat.reduceAdd, emptyHp]
   repeat' (first | refine goS ?_ | (apply U6; exact Z1; exact Z1; (focus (simp only [List.nil_append, List.append_nil]; first | exact k25 _ | exact k83 _ | exact k86 _ | exact k85z _)); simp only [pM, pN, rR, rP]) | refine go2 (fun hh => ?_) (fun hh => ?_) | fail)
   all_goals (simp only [resV_def (X := dX c23) Tryz.func23, Tryz.results23]; first | exact J5 | refine J6 ?_)
  ·have h300 : decide ((s.length : Int) > 300) = false := by simp only [decide_eq_false_iff_not]; omega
   cases bq with
   | false =>
    rw [rd_none hlong (hrn rfl)] at k83
    unfold zeroM at k83
    unfold mcV at k86
    have q0 : ((4 : Int) != 0) = true := rfl
    have q1 : ((4 : Int) == 4) = true := rfl
    clear hlen hrs hrn hrl hre hxq hbq hlong
    generalize slN (x.st.map ptC.enc) = ua at *
    generalize slN (x.rs.map rdgC.enc) = va at *
    refine ClR.walk (c := _) rfl Tryz.func23 rfl (by kernel_rfl) rfl isRet_fail ?_
    simp only [entryEnv, Nat.reduceAdd, emptyHp]
    repeat' (first | refine goS ?_ | (apply U6; exact Z1; exact Z1; (focus (simp only [List.nil_append, List.append_nil]; first | exact k25 _ | exact k83 _ | exact k86 _ | exact k85z _)); simp only [pM, pN, rR, rP]) | refine go2 (fun hh => ?_) (fun hh => ?_) | fail)
    all_goals (simp only [resV_def (X := dX c23) Tryz.func23, Tryz.results23]; first | exact J5 | refine J6 ?_)
   | true =>
    have hrd := hrs rfl
    obtain ⟨_, _, hml⟩ := readM_is hrd
    have hl := slN_sl ptC x.st (by have := hml.1; unfold maxL; omega)
    have hr := slN_sl rdgC x.rs (by have := hml.2; unfold maxL; omega)
    have k71 := fun h => K71m (X := dX c23) rfl hl hr h
    have k82 := fun h => K82 (X := dX c23) rfl hl hr h
    have k85 := fun h => K85 (X := dX c23) rfl _ _ _ _ x hl hr hl hr (by have := hml.1; omega) (by have := hml.2; omega) h
    have htx : textM x = s := hrl x hre
    unfold mcA at k71 k82 k85
    cases hb : x.mach with
    | false =>
     rw [rd_bad hlong hrd hb] at k83
     rw [hb] at k71
     unfold zeroM at k83
     unfold mcV at k86
     have q0 : ((2 : Int) != 0) = true := rfl
     have q1 : ((2 : Int) == 2) = true := rfl
     clear hlen hrs hrn hrl hre hxq hbq hlong hrd hml hl hr k82 k85 htx hb
     generalize slN (x.st.map ptC.enc) = ua at *
     generalize slN (x.rs.map rdgC.enc) = va at *
     refine ClR.walk (c := _) rfl Tryz.func23 rfl (by kernel_rfl) rfl isRet_fail ?_
     simp only [entryEnv, Nat.reduceAdd, emptyHp]
     repeat' (first | refine goS ?_ | (apply U6; exact Z1; exact Z1; (focus (simp only [List.nil_append, List.append_nil]; first | exact k25 _ | exact k83 _ | exact k86 _ | exact k71 _ | exact k85z _)); simp only [pM, pN, rR, rP]) | refine go2 (fun hh => ?_) (fun hh => ?_) | fail)
     all_goals (simp only [resV_def (X := dX c23) Tryz.func23, Tryz.results23]; first | exact J5 | refine J6 ?_)
    | true =>
     rw [rd_some hlong hrd hb] at k83
     rw [hb] at k71
     rw [pr_yes hb, htx] at k82
     unfold mcV at k83 k86
     have q0 : ((0 : Int) != 0) = false := rfl
     have q1 : ((0 : Int) == 0) = true := rfl
     have q2 : (s == s) = true := beq_self_eq_true s
     clear hlen hrs hrn hrl hre hxq hbq hlong hrd hml hl hr k85z htx hb
     generalize slN (x.st.map ptC.enc) = ua at *
     generalize slN (x.rs.map rdgC.enc) = va at *
     refine ClR.walk (c := _) rfl Tryz.func23 rfl (by kernel_rfl) rfl isRet_fail ?_
     simp only [entryEnv, Nat.reduceAdd, emptyHp]
     repeat' (first | refine goS ?_ | (apply U6; exact Z1; exact Z1; (focus (simp only [List.nil_append, List.append_nil]; first | exact k25 _ | exact k83 _ | exact k86 _ | exact k71 _ | exact k82 _ | exact k85 _)); simp only [pM, pN, rR, rP]) | refine go2 (fun hh => ?_) (fun hh => ?_) | fail)
     all_goals (simp only [resV_def (X := dX c23) Tryz.func23, Tryz.results23]; first | exact J5 | refine J6 ?_)
 ·have h400 : decide ((s.length : Int) > 400) = true := by simp only [decide_eq_true_eq]; omega
  clear hlen
  refine ClR.walk (c := _) rfl Tryz.func23 rfl (by kernel_rfl) rfl isRet_fail ?_
  simp only [entryEnv, Nat.reduceAdd, emptyHp]
  repeat' (first | refine goS ?_ | (apply U6; exact Z1; exact Z1; (focus (simp only [List.nil_append, List.append_nil]; first | exact k25 _)); simp only [pM, pN, rR, rP]) | refine go2 (fun hh => ?_) (fun hh => ?_) | fail)
  all_goals (simp only [resV_def (X := dX c23) Tryz.func23, Tryz.results23]; first | exact J5 | refine J6 ?_)
end Go.AM
namespace Go.AM
open Go Go.Proofs
variable [Keep]
attribute [local irreducible] W WO WO1 WD WQ WT thenQ blockQ endR isRet retK Cl ClR
attribute [local irreducible] machB textM readM
noncomputable def c24 : Itr
 | 38 => some (pureFn sp38)
 | 71 => some (flatFn sp71)
 | 82 => some (pureFn sp82)
 | 83 => some (pureFn sp83)
 | 85 => some (flatFn sp85)
 | f => c25 cK f
theorem elems_row {hp : Heap} {id n sz : Nat} {l L : List AV} (h : hp.get id = some (.rw sz L)) (hl : L = l) (hn : n = l.length) : hp.elems (.row id 0 n) = some l := by
 subst hl
 subst hn
 simp [Heap.elems, h]
def dRwsW : FuncId → List Tmp
 | 24 => [67]
 | f => dRws f
noncomputable def dXW (intr : Itr) : Ctx := { P := Tryz.prog, hts := dHts, rws := dRwsW, frz := dFrz, intr }
theorem dXW_sound {intr : Itr} (h : ∀ f g, intr f = some g → IntrFn Tryz.prog f g) : Sound (dXW intr) := ⟨d_num, d_mix, h⟩
theorem dXW_P (intr : Itr) : (dXW intr).P = Tryz.prog := rfl
theorem dXW_hts (intr : Itr) : (dXW intr).hts = dHts := rfl
theorem dXW_rws (intr : Itr) : (dXW intr).rws = dRwsW := rfl
theorem dXW_frz (intr : Itr) : (dXW intr).frz = dFrz := rfl
attribute [go_sem] dXW_P dXW_hts dXW_rws dXW_frz
set_option maxHeartbeats 8000000 in
theorem T24 (sa ra : AV) (at_ digit : Int) (cx cy wx wy : Sp) (st : List Pt) (rs : List Rdg) (hl : isSl sa (st.map ptC.enc)) (hr : isSl ra (rs.map rdgC.enc)) :
  ClR (dXW c24) 24 [.agg [sa, .int .i64 cx.lo, .int .i64 cx.hi, .int .i64 cy.lo, .int .i64 cy.hi, .int .i64 wx.lo, .int .i64 wx.hi, .int .i64 wy.lo, .int .i64 wy.hi, ra], .int .i64 at_, .int .i64 digit] emptyHp (isRet (.bool true)) := by
 have o2 := hl.out
 have o3 := hr.out
 have t2 := hl.tup
 have t3 := hr.tup
 have hp1 := hl.pur (enc_pur ptC st)
 have hp2 := hr.pur (enc_pur rdgC rs)
 have on : ∀ {a : AV} {es : List AV}, isSl a es → a.one = true := fun h => by rcases h with ⟨rfl | rfl, _⟩ | rfl <;> rfl
 have n2 := on hl
 have n3 := on hr
 have k25 : ∀ h, Cl (dXW c24) 25 [] h (.ret (.bool true) h none) := fun h => K25 rfl h
 have k38 : ∀ h, Cl (dXW c24) 38 [.agg [sa, .int .i64 cx.lo, .int .i64 cx.hi, .int .i64 cy.lo, .int .i64 cy.hi, .int .i64 wx.lo, .int .i64 wx.hi, .int .i64 wy.lo, .int .i64 wy.hi, ra]] h (.ret (.bool (decide ((st.length : Int) ≤ 6) && decide ((rs.length : Int) ≤ 6))) h none) := fun h => by
  have h1 := slLen_mk hl
  have h2 := slLen_mk hr
  rw [List.length_map] at h1 h2
  exact Cl.intr (g := pureFn sp38) rfl (by simp [pureFn, AV.pur, AV.purL, hp1, hp2, sp38, h1, h2])
 simp only [isTuple] at t2 t3
 by_cases g : (decide ((st.length : Int) ≤ 6) && decide ((rs.length : Int) ≤ 6)) = true
 ·rw [g] at k38
  simp only [Bool.and_eq_true, decide_eq_true_eq] at g
  have v2 : slV ptC sa = some st := slV_mk hl (by unfold maxL; omega)
  have v3 : slV rdgC ra = some rs := slV_mk hr (by unfold maxL; omega)
  obtain ⟨m, hm⟩ : ∃ m : Mc, m = ⟨st, cx, cy, wx, wy, rs⟩ := ⟨_, rfl⟩
  have v2 : slV ptC sa = some m.st := by rw [hm]; exact v2
  have v3 : slV rdgC ra = some m.rs := by rw [hm]; exact v3
  have k71 := fun h => K71m (X := dXW c24) rfl v2 v3 h
  have k82 := fun h => K82 (X := dXW c24) rfl v2 v3 h
  have eA : mcA sa ra m = .agg [sa, .int .i64 cx.lo, .int .i64 cx.hi, .int .i64 cy.lo, .int .i64 cy.hi, .int .i64 wx.lo, .int .i64 wx.hi, .int .i64 wy.lo, .int .i64 wy.hi, ra] := by rw [hm]; rfl
  rw [eA] at k71 k82
  by_cases hbd : m.mach = true ∧ 0 ≤ digit ∧ digit ≤ 9
  ·obtain ⟨hb, hd0, hd9⟩ := hbd
   rw [hb] at k71
   rw [pr_yes hb] at k82
   have k85z := fun h => K85z (X := dXW c24) rfl h
   have c1 : decide (digit < 0) = false := by simp only [decide_eq_false_iff_not]; omega
   have c2 : decide (digit > 9) = false := by simp only [decide_eq_false_iff_not]; omega
   have q0 : ((0 : Int) != 0) = false := rfl
   have q1 : ((4 : Int) == 4) = true := rfl
   have tt : (true && true) = true := rfl
   have hsp := fun i c d hi hd hc hne => spoilt (m.mach_ok hb).1 (m.mach_ok hb).2.1 (m.mach_ok hb).2.2 (i := i) (c := c) (d := d) hi hd hc hne
   have hsh := mc_short hb
   have HB := Lib.hid hb
   clear hl hr hp1 hp2 v2 v3 eA hm g hb
   generalize textM m = tx at *
   by_cases hat : 0 ≤ at_ ∧ at_ < (tx.length : Int)
   ·obtain ⟨j, rfl⟩ : ∃ j : Nat, at_ = j := ⟨at_.toNat, by omega⟩
    have hj : j < tx.length := by omega
    have e1 : decide (((j : Nat) : Int) < 0) = false := by simp
    have e2 : decide (((j : Nat) : Int) ≥ (tx.length : Int)) = false := by simp only [decide_eq_false_iff_not]; omega
    obtain ⟨b, hb'⟩ := get_some hj
    have hij := idx_j hj
    by_cases hdg : isDig b = true
    ·obtain ⟨e3, e4⟩ := lss48 b hdg
     have hbb := dig_bds hdg
     have ws : IntKind.u8.wrap ((b.toNat : Int) - 48) = ((b.toNat - 48 : Nat) : Int) := by
      rw [show (b.toNat : Int) - 48 = ((b.toNat - 48 : Nat) : Int) by omega]
      exact u8_wrap (by omega)
     have wc : IntKind.i64.wrap ((b.toNat - 48 : Nat) : Int) = ((b.toNat - 48 : Nat) : Int) := wrap_small (by omega) (by omega)
     by_cases hsame : ((b.toNat - 48 : Nat) : Int) = digit
     ·have e5 : (((b.toNat - 48 : Nat) : Int) == digit) = true := by rw [beq_iff_eq]; exact hsame
      clear hsp hbb hdg hsh hat hj hd0 hd9 hsame
      refine ClR.walk (c := _) rfl Tryz.func24 rfl (by kernel_rfl) rfl isRet_fail ?_
      simp only [entryEnv, Nat.reduceAdd, emptyHp]
      repeat' (first | refine goS ?_ | (apply U6; exact Z1; exact Z1; (focus (simp only [List.nil_append, List.append_nil]; first | exact k25 _ | exact k38 _ | exact k71 _ | exact k82 _)); simp only [pM, pN, rR, rP]) | refine go2 (fun hh => ?_) (fun hh => ?_) | fail)
      all_goals (simp only [resV_def (X := dXW c24) Tryz.func24, Tryz.results24]; first | exact J5 | refine J6 ?_)
     ·have e5 : (((b.toNat - 48 : Nat) : Int) == digit) = false := by rw [beq_eq_false_iff_ne]; exact hsame
      obtain ⟨dn, rfl⟩ : ∃ dn : Nat, digit = dn := ⟨digit.toNat, by omega⟩
      obtain ⟨cd, hcd⟩ : ∃ cd : UInt8, cd.toNat = 48 + dn := ⟨UInt8.ofNat (48 + dn), by rw [UInt8.toNat_ofNat']; omega⟩
      have wd : IntKind.i64.wrap (48 + ((dn : Nat) : Int)) = ((cd.toNat : Nat) : Int) := by rw [wrap_small (by omega) (by omega)]; omega
      have we : IntKind.u8.wrap ((cd.toNat : Nat) : Int) = ((cd.toNat : Nat) : Int) := u8_wrap (by omega)
      have hcdd : isDig cd = true := by
       unfold isDig
       simp only [Bool.and_eq_true, decide_eq_true_eq]
       omega
      have hrd := hsp j cd b hb' hdg hcdd (fun e => hsame (by rw [← e, hcd]; omega))
      have k83 := fun h => K83 (X := dXW c24) rfl (tx.set j cd) (by rw [List.length_set]; omega) h
      rw [rd_none (by rw [List.length_set]; omega) hrd] at k83
      unfold zeroM at k83
      have hset : (tx.map fun b => AV.int .u8 b.toNat).set j (.int .u8 ↑cd.toNat) = (tx.set j cd).map fun b => AV.int .u8 b.toNat := by rw [List.map_set]
      have hgl : (tx.map fun b => AV.int .u8 b.toNat)[j]? = some (.int .u8 ↑b.toNat) := by simp [hb']
      have hia : indexAddrV Tryz.prog ⟨1, (Mp.nil : Mp Blk).set 0 (.rw 1 (tx.map fun b => AV.int .u8 b.toNat))⟩ 131 (.row 0 0 tx.length) (.int .i64 ↑j) = some (.eptr 0 1 j 0) := by
       have hg : (Heap.mk 1 ((Mp.nil : Mp Blk).set 0 (.rw 1 (tx.map fun b => AV.int .u8 b.toNat)))).get 0 = some (.rw 1 (tx.map fun b => AV.int .u8 b.toNat)) := by simp only [go_sem, *, Nat.reduceLT, Int.reduceEq, Int.reduceBEq, Int.reduceLE, Int.reduceLT, Nat.reduceAdd, Nat.reduceBEq, Nat.reduceEqDiff, reduceIte, Nat.reduceLeDiff, Nat.reduceMul, Nat.reduceSub, reduceCtorEq, hp_get]
       simp only [indexAddrV, Tryz.underlying131, ty_lay5, hij, hg, if_true, Nat.zero_add]
      have htn : tx ≠ [] := fun e => by rw [e] at hj; simp at hj
      have HTN := Lib.hid htn
      clear hsp hbb hdg hsh hat hj hd0 hd9 hsame hcd hcdd hrd htn
      refine ClR.walk (c := _) rfl Tryz.func24 rfl (by kernel_rfl) rfl isRet_fail ?_
      simp only [entryEnv, Nat.reduceAdd, emptyHp]
      repeat' (first | (apply WO1.s2b (e := 5) (l := tx); exact Z2; (focus (exact Tryz.underlying9)); (focus (exact Tryz.underlying131)); (focus (exact Tryz.underlying5)); (focus (exact HTN.out)); exact rfl; simp only [pM, pN]) | (apply U5; exact rfl; (focus (intro cl rd; simp only [go_sem, *, Nat.reduceLT, Int.reduceEq, Int.reduceBEq, Int.reduceLE, Int.reduceLT, Nat.reduceAdd, Nat.reduceBEq, Nat.reduceEqDiff, reduceIte, Nat.reduceLeDiff, Nat.reduceMul, Nat.reduceSub, reduceCtorEq, efV, Fr.storeE, AV.cells, isTuple, write_eptr, splice, asElem, isAggV]; with_reducible rfl)); simp only [pM, pN]) | (apply WO1.b2s (e := 5) (l := (tx.set j cd).map fun b => AV.int .u8 b.toNat); exact Z1; (focus (exact Tryz.underlying131)); (focus (exact Tryz.underlying9)); (focus (exact Tryz.underlying5)); (focus (refine elems_row (sz := 1) (L := (tx.set j cd).map fun b => AV.int .u8 b.toNat) ?_ rfl ?_; (focus exact Z2); (focus (simp)))); (focus (exact bytesOf_map _)); exact rfl; simp only [pM, pN]) | refine go1 ?_ | (apply U6; exact Z1; exact Z1; (focus (simp only [List.nil_append, List.append_nil]; first | exact k25 _ | exact k38 _ | exact k71 _ | exact k82 _ | exact k83 _ | exact k85z _)); simp only [pM, pN, rR, rP]) | refine go2 (fun hh => ?_) (fun hh => ?_) | fail)
      all_goals (simp only [resV_def (X := dXW c24) Tryz.func24, Tryz.results24]; first | exact J5 | refine J6 ?_)
    ·have hdg : isDig b = false := by simpa using hdg
     rcases lss48n b hdg with e3 | ⟨e3, e4⟩
     all_goals (
      clear hsp hdg hsh hat hj hd0 hd9
      refine ClR.walk (c := _) rfl Tryz.func24 rfl (by kernel_rfl) rfl isRet_fail ?_
      simp only [entryEnv, Nat.reduceAdd, emptyHp]
      repeat' (first | refine goS ?_ | (apply U6; exact Z1; exact Z1; (focus (simp only [List.nil_append, List.append_nil]; first | exact k25 _ | exact k38 _ | exact k71 _ | exact k82 _)); simp only [pM, pN, rR, rP]) | refine go2 (fun hh => ?_) (fun hh => ?_) | fail)
      all_goals (simp only [resV_def (X := dXW c24) Tryz.func24, Tryz.results24]; first | exact J5 | refine J6 ?_))
   ·have hcase : decide (at_ < 0) = true ∨ (decide (at_ < 0) = false ∧ decide (at_ ≥ (tx.length : Int)) = true) := by
     simp only [decide_eq_true_eq, decide_eq_false_iff_not]
     omega
    rcases hcase with e1 | ⟨e1, e2⟩
    all_goals (
     clear hsp hsh hat hd0 hd9
     refine ClR.walk (c := _) rfl Tryz.func24 rfl (by kernel_rfl) rfl isRet_fail ?_
     simp only [entryEnv, Nat.reduceAdd, emptyHp]
     repeat' (first | refine goS ?_ | (apply U6; exact Z1; exact Z1; (focus (simp only [List.nil_append, List.append_nil]; first | exact k25 _ | exact k38 _ | exact k71 _ | exact k82 _)); simp only [pM, pN, rR, rP]) | refine go2 (fun hh => ?_) (fun hh => ?_) | fail)
     all_goals (simp only [resV_def (X := dXW c24) Tryz.func24, Tryz.results24]; first | exact J5 | refine J6 ?_))
  ·have hcase : m.mach = false ∨ (m.mach = true ∧ decide (digit < 0) = true) ∨ (m.mach = true ∧ decide (digit < 0) = false ∧ decide (digit > 9) = true) := by
    cases hb : m.mach with
    | false => exact .inl rfl
    | true =>
     rw [hb] at hbd
     simp only [true_and, decide_eq_true_eq, decide_eq_false_iff_not] at hbd ⊢
     omega
   clear hl hr hp1 hp2 v2 v3 eA hm g hbd k82
   generalize m.mach = mb at *
   rcases hcase with rfl | ⟨rfl, c1⟩ | ⟨rfl, c1, c2⟩
   all_goals (
    refine ClR.walk (c := _) rfl Tryz.func24 rfl (by kernel_rfl) rfl isRet_fail ?_
    simp only [entryEnv, Nat.reduceAdd, emptyHp]
    repeat' (first | refine goS ?_ | (apply U6; exact Z1; exact Z1; (focus (simp only [List.nil_append, List.append_nil]; first | exact k25 _ | exact k38 _ | exact k71 _)); simp only [pM, pN, rR, rP]) | refine go2 (fun hh => ?_) (fun hh => ?_) | fail)
    all_goals (simp only [resV_def (X := dXW c24) Tryz.func24, Tryz.results24]; first | exact J5 | refine J6 ?_))
 ·have g : (decide ((st.length : Int) ≤ 6) && decide ((rs.length : Int) ≤ 6)) = false := by simpa using g
  rw [g] at k38
  clear hl hr hp1 hp2 g
  refine ClR.walk (c := _) rfl Tryz.func24 rfl (by kernel_rfl) rfl isRet_fail ?_
  simp only [entryEnv, Nat.reduceAdd, emptyHp]
  repeat' (first | refine goS ?_ | (apply U6; exact Z1; exact Z1; (focus (simp only [List.nil_append, List.append_nil]; first | exact k25 _ | exact k38 _)); simp only [pM, pN, rR, rP]) | refine go2 (fun hh => ?_) (fun hh => ?_) | fail)
  all_goals (simp only [resV_def (X := dXW c24) Tryz.func24, Tryz.results24]; first | exact J5 | refine J6 ?_)
end Go.AM
