/-
  A part of the proof: contracts of functions.
-/
import Derived.Test.YtlhcjccaimmhgaaGreatDoorVAR
import Derived.Test.YtlhcjccaimmhgaaGreatDoorVAP
import Derived.Test.YtlhcjccaimmhgaaGreatDoorVAQ
import Derived.Test.YtlhcjccaimmhgaaGreatDoorVAK
set_option linter.unusedSectionVars false
set_option linter.unusedVariables false
set_option linter.unusedSimpArgs false
set_option maxRecDepth 100000
namespace Go.AM
open Go Go.Proofs
variable [Keep]
attribute [local irreducible] W WO WO1 WD WQ WT thenQ blockQ endR isRet retK Cl ClR
attribute [local irreducible] isNew roundQ RdR clR boundsS machB
def cellI (b sz : Nat) (l : List AV) (h : Heap) : Prop := b < h.next /\ ∃ v, h.get b = some (.var [v]) /\ Blt h v sz l
def cellO (b : Nat) (h : Heap) (id : Nat) : Prop := id = b \/ ∃ off n, h.get b = some (.var [.row id off n])
theorem cell_ok {σ : Type} (b sz : Nat) (f : σ -> List AV) (P : σ -> Prop) : OwnOk (fun s h => cellI b sz (f s) h /\ P s) (cellO b) := by
 refine ⟨fun s h h' i hn hg => ?_, fun s h id i ho => ?_⟩
 ·obtain ⟨⟨hb, v, g, bl⟩, hp⟩ := i
  have e := hg b (.inl rfl)
  refine ⟨⟨⟨Nat.lt_of_lt_of_le hb hn, v, e.trans g, ?_⟩, hp⟩, fun id ho => ?_⟩
  ·rcases bl with q | ⟨id, q1, q2, q3, q4⟩
   ·exact .inl q
   ·subst q1
    exact .inr ⟨id, rfl, (hg id (.inr ⟨_, _, g⟩)).trans q2, Nat.lt_of_lt_of_le q3 hn, q4⟩
  ·rcases ho with q | ⟨off, n, q⟩
   ·exact .inl q
   ·exact .inr ⟨off, n, by rw [<- e]; exact q⟩
 ·obtain ⟨⟨hb, v, g, bl⟩, _⟩ := i
  rcases ho with rfl | ⟨off, n, q⟩
  ·exact hb
  ·rw [g] at q
   cases q
   rcases bl with ⟨q, _⟩ | ⟨id', q1, q2, q3, q4⟩
   ·cases q
   ·cases q1; exact q3
theorem cell_put {b sz : Nat} {l : List AV} {h : Heap} {id : Nat} {bl : Blk} (i : cellI b sz l h) (hL : (∀ vs, h.get id ≠ some (.var vs)) /\ ∀ z r, h.get id ≠ some (.rw z r)) : cellI b sz l (h.put id bl) := by
 obtain ⟨hb, v, g, bl⟩ := i
 refine ⟨hb, v, ?_, ?_⟩
 ·rw [Heap.get_put, if_neg (fun e => hL.1 _ (e ▸ g))]; exact g
 ·rcases bl with q | ⟨id', q1, q2, q3, q4⟩
  ·exact .inl q
  ·exact .inr ⟨id', q1, by rw [Heap.get_put, if_neg (fun e => hL.2 _ _ (e ▸ q2))]; exact q2, q3, q4⟩
theorem Blt.ne_row {h : Heap} {v : AV} {sz id : Nat} {l : List AV} (b : Blt h v sz l) (hg : ∀ z r, h.get id ≠ some (.rw z r)) : ∀ off n, v ≠ .row id off n := by
 intro off n e
 rcases b with ⟨q, _⟩ | ⟨id', q1, q2, _⟩
 ·rw [q] at e; cases e
 ·rw [q1] at e; cases e; exact hg _ _ q2
theorem Blt.putv {h : Heap} {v : AV} {sz id : Nat} {l : List AV} {bl : Blk} (b : Blt h v sz l) (hg : ∀ z r, h.get id ≠ some (.rw z r)) : Blt (h.put id bl) v sz l := by
 rcases b with q | ⟨id', q1, q2, q3, q4⟩
 ·exact .inl q
 ·exact .inr ⟨id', q1, by rw [Heap.get_put, if_neg (fun e => hg _ _ (e ▸ q2))]; exact q2, q3, q4⟩
theorem cell_not {b sz id : Nat} {l vs : List AV} {h : Heap} (i : cellI b sz l h) (hne : id ≠ b) (hg : h.get id = some (.var vs)) : ¬ cellO b h id := by
 obtain ⟨hb, v, g, bl⟩ := i
 rintro (q | ⟨off, n, q⟩)
 ·exact hne q
 ·rw [g] at q
  cases q
  exact bl.ne_row (fun z r => by rw [hg]; simp) _ _ rfl
def canB (cx cy wx wy : Sp) (rs : List Rdg) (n : Nat) (y : Bx) : Bool := (boundsS (ax0 cx wx rs [⟨n, y.x, y.y⟩])).isSome && (boundsS (ax1 cy wy rs [⟨n, y.x, y.y⟩])).isSome
def couldN (p : Nat -> Bool) (k : Nat) : List Nat := ((List.range k).filter fun i => p (i + 1)).map (· + 1)
theorem couldN_succ (p : Nat -> Bool) (k : Nat) : couldN p (k + 1) = if p (k + 1) then couldN p k ++ [k + 1] else couldN p k := by
 unfold couldN
 rw [List.range_succ, List.filter_append, List.map_append]
 cases h : p (k + 1) <;> simp [h]
theorem couldN_len (p : Nat -> Bool) (k : Nat) : (couldN p k).length <= k := by
 unfold couldN
 rw [List.length_map]
 have := List.length_filter_le (fun i => p (i + 1)) (List.range k)
 simpa using this
def couldP (is : Bool) (l : List Nat) : List AV × List AV := if is then (natsV l, [.bool true]) else ([], [.bool false])
theorem natsV_flat : ∀ (l : List Nat), ∀ e ∈ natsV l, ∀ x ∈ e.cells, x.flat = true := by
 intro l e he x hx
 obtain ⟨k, _, rfl⟩ := List.mem_map.1 he
 simp [AV.cells] at hx
 subst hx; rfl
theorem couldP_flat (is : Bool) (l : List Nat) : (∀ e ∈ (couldP is l).1, ∀ x ∈ e.cells, x.flat = true) /\ ∀ x ∈ (couldP is l).2, x.flat = true := by
 unfold couldP
 cases is
 ·simp [AV.flat]
 ·exact ⟨natsV_flat l, by simp [AV.flat]⟩
def possB (cx cy wx wy : Sp) (rs : List Rdg) : Bool := (boundsS (ax0 cx wx rs [])).isSome && (boundsS (ax1 cy wy rs [])).isSome
def stepC (p : Bx -> Bool) (n : Nat) (y : Bx) (s : List Nat) : List Nat × Bool := if p y then (s ++ [n], false) else (s, true)
theorem foldS_any (p : Bx -> Bool) (n : Nat) : ∀ (l : List Bx) (s : List Nat), foldS (stepC p n) l s = if l.any p then (s ++ [n], false) else (s, true) := by
 intro l
 induction l with
 | nil => intro s; rfl
 | cons a l ih =>
  intro s
  cases h : p a with
  | true => simp [foldS, stepC, h]
  | false => simp [foldS, stepC, h, ih]
theorem kn_yes {A B : Ax} (h : ((boundsS A).isSome && (boundsS B).isSome) = true) : ∃ a b, knV A B = .tuple [.agg [a, b], .bool true] /\ outV (some a) = some a /\ outV (some b) = some b /\ isTuple a = false /\ isTuple b = false := by
 simp only [Bool.and_eq_true, Option.isSome_iff_exists] at h
 obtain ⟨⟨a, ha⟩, ⟨b, hb⟩⟩ := h
 exact ⟨_, _, by rw [knV_def, ha, hb]; rfl, (slN_is _).out, (slN_is _).out, (slN_is _).tup, (slN_is _).tup⟩
theorem kn_no {A B : Ax} (h : ((boundsS A).isSome && (boundsS B).isSome) = false) : knV A B = .tuple [.agg [.nilslice, .nilslice], .bool false] := by
 cases hA : boundsS A with
 | none => exact knV_no1 hA
 | some a => cases hB : boundsS B with
  | none => exact knV_no2 hB
  | some b => rw [hA, hB] at h; cases h
theorem K103y {X : Ctx} (hX : X.intr 103 = some (onHeap h103)) (sa ra mv : AV) (cx cy wx wy : Sp) (rs : List Rdg) (hr : slV rdgC ra = some rs) (hs : sa.one = true) (hm : mv.one = true) (hlen : rs.length <= 1000) (n : Nat) (y : Bx) (h : Heap) :
  Cl X 103 [.agg [sa, .int .i64 cx.lo, .int .i64 cx.hi, .int .i64 cy.lo, .int .i64 cy.hi, .int .i64 wx.lo, .int .i64 wx.hi, .int .i64 wy.lo, .int .i64 wy.hi, ra, mv], .vslice [.agg [.int .i64 n, .int .i64 y.x.lo, .int .i64 y.x.hi, .int .i64 y.y.lo, .int .i64 y.y.hi]]] h (.ret (knV (ax0 cx wx rs [⟨n, y.x, y.y⟩]) (ax1 cy wy rs [⟨n, y.x, y.y⟩])) h none) :=
 Cl.intr hX (by
  have h1 : slV heldC (.vslice [.agg [.int .i64 n, .int .i64 y.x.lo, .int .i64 y.x.hi, .int .i64 y.y.lo, .int .i64 y.y.hi]]) = some [⟨n, y.x, y.y⟩] := rfl
  have h2 : (Nat.ble (rs.length + ([⟨n, y.x, y.y⟩] : List Held).length) maxL && sa.one && mv.one) = true := by
   rw [hs, hm]
   simp [Nat.ble_eq]
   unfold maxL
   omega
  simp only [onHeap, h103, sp103, hr, h1, h2, if_true])
def sp132 : List AV -> Option (List AV × List AV)
 | [.agg [sa, .int .i64 cxl, .int .i64 cxh, .int .i64 cyl, .int .i64 cyh, .int .i64 wxl, .int .i64 wxh, .int .i64 wyl, .int .i64 wyh, ra], .agg [ha, .int .i64 err]] => match slV ptC sa, slV rdgC ra, slV ptC ha with
  | some ss, some rs, some hs => if (decide (hs.length = ss.length) && decide (1 <= ss.length) && decide (ss.length <= 8) && decide (rs.length <= 1000)) = true then
    some (couldP (possB ⟨cxl, cxh⟩ ⟨cyl, cyh⟩ ⟨wxl, wxh⟩ ⟨wyl, wyh⟩ rs) (couldN (fun n => (boxL err ss hs).any (canB ⟨cxl, cxh⟩ ⟨cyl, cyh⟩ ⟨wxl, wxh⟩ ⟨wyl, wyh⟩ rs n)) 12)) else none
  | _, _, _ => none
 | _ => none
theorem p132 : ∀ args el rest, sp132 args = some (el, rest) -> (∀ e ∈ el, ∀ x ∈ e.cells, x.flat = true) /\ ∀ x ∈ rest, x.flat = true := by
 intro args el rest h
 unfold sp132 at h
 split at h
 ·split at h
  ·split at h
   ·have h := Option.some.inj h
    have e1 := congrArg Prod.fst h
    have e2 := congrArg Prod.snd h
    simp only at e1 e2
    rw [<- e1, <- e2]
    exact couldP_flat _ _
   ·cases h
  ·cases h
 ·cases h
noncomputable def cHE : Itr
 | 96 => some (pureFn sp96)
 | 103 => some (onHeap h103)
 | 116 => some (flatFn sp116)
 | 164 => some (flatFn sp164)
 | _ => none
theorem cHE_sound : Sound (dX cHE) := dX_sound (fun f g h => by
 unfold cHE at h
 split at h
 ·cases h; exact F96
 ·cases h; exact H103
 ·cases h; exact F116
 ·cases h; exact F164
 ·cases h)
set_option maxHeartbeats 8000000 in
theorem F132 : IntrFn Tryz.prog 132 (newFn 1 sp132) := by
 refine new_fn (X := dX cHE) cHE_sound p132 ?_
 intro args el rest h
 unfold sp132 at h
 split at h
 ·rename_i sa cxl cxh cyl cyh wxl wxh wyl wyh ra ha err
  split at h
  ·rename_i ss rs hs hl hr hh
   split at h
   ·rename_i hc
    have h := Option.some.inj h
    have e1 := congrArg Prod.fst h
    have e2 := congrArg Prod.snd h
    simp only at e1 e2
    rw [<- e1, <- e2]
    clear h e1 e2
    simp only [Bool.and_eq_true, decide_eq_true_eq] at hc
    obtain ⟨⟨⟨hsl, hn1⟩, hn8⟩, hrl⟩ := hc
    have o1 := sl_out hh
    have o2 := sl_out hl
    have o3 := sl_out hr
    obtain ⟨one1, t1⟩ := sl_one hh
    obtain ⟨one2, t2⟩ := sl_one hl
    obtain ⟨one3, t3⟩ := sl_one hr
    have c1 : ha.cells = [ha] := by rcases (slV_is hh).1 with ⟨rfl | rfl, _⟩ | rfl <;> rfl
    have c2 : sa.cells = [sa] := by rcases (slV_is hl).1 with ⟨rfl | rfl, _⟩ | rfl <;> rfl
    have c3 : ra.cells = [ra] := by rcases (slV_is hr).1 with ⟨rfl | rfl, _⟩ | rfl <;> rfl
    simp only [AV.cells] at c1 c2 c3
    have hk : ∀ (hp : Heap) (mv : AV), mv.one = true -> Cl (dX cHE) 103 [.agg [sa, .int .i64 cxl, .int .i64 cxh, .int .i64 cyl, .int .i64 cyh, .int .i64 wxl, .int .i64 wxh, .int .i64 wyl, .int .i64 wyh, ra, mv], .nilslice] hp (.ret (knV (ax0 ⟨cxl, cxh⟩ ⟨wxl, wxh⟩ rs []) (ax1 ⟨cyl, cyh⟩ ⟨wyl, wyh⟩ rs [])) hp none) :=
     fun hp mv hmv => K103h (X := dX cHE) rfl sa ra mv ⟨cxl, cxh⟩ ⟨cyl, cyh⟩ ⟨wxl, wxh⟩ ⟨wyl, wyh⟩ rs hr one2 hmv hp
    have hy : ∀ (n : Nat) (y : Bx) (hp : Heap) (mv : AV), mv.one = true -> Cl (dX cHE) 103 [.agg [sa, .int .i64 cxl, .int .i64 cxh, .int .i64 cyl, .int .i64 cyh, .int .i64 wxl, .int .i64 wxh, .int .i64 wyl, .int .i64 wyh, ra, mv], .vslice [.agg [.int .i64 n, .int .i64 y.x.lo, .int .i64 y.x.hi, .int .i64 y.y.lo, .int .i64 y.y.hi]]] hp (.ret (knV (ax0 ⟨cxl, cxh⟩ ⟨wxl, wxh⟩ rs [⟨n, y.x, y.y⟩]) (ax1 ⟨cyl, cyh⟩ ⟨wyl, wyh⟩ rs [⟨n, y.x, y.y⟩])) hp none) :=
     fun n y hp mv hmv => K103y (X := dX cHE) rfl sa ra mv ⟨cxl, cxh⟩ ⟨cyl, cyh⟩ ⟨wxl, wxh⟩ ⟨wyl, wyh⟩ rs hr one2 hmv hrl n y hp
    have h102 := fun n m => C102 cHE rfl sa ra ⟨cxl, cxh⟩ ⟨cyl, cyh⟩ ⟨wxl, wxh⟩ ⟨wyl, wyh⟩ (slV_is hl).1.frz1 (slV_is hr).1.frz1 n m
    have h113 := fun pn pm => C113 cHE rfl sa ha err ss hs hl hh pn pm
    have H102 := Lib.hid h102
    have HC113 := Lib.hid h113
    have HPO := Lib.hid (show possB ⟨cxl, cxh⟩ ⟨cyl, cyh⟩ ⟨wxl, wxh⟩ ⟨wyl, wyh⟩ rs = ((boundsS (ax0 ⟨cxl, cxh⟩ ⟨wxl, wxh⟩ rs [])).isSome && (boundsS (ax1 ⟨cyl, cyh⟩ ⟨wyl, wyh⟩ rs [])).isSome) from rfl)
    have HHY := Lib.hid hy
    have HL := Lib.hid hl
    have HH := Lib.hid hh
    have HSL := Lib.hid hsl
    clear h102 h113 hy hl hh hr hsl
    refine ClR.walk (c := _) rfl Tryz.func132 rfl (by kernel_rfl) rfl isNew_fail ?_
    simp only [entryEnv, Nat.reduceAdd, emptyHp]
    cases hpo : possB ⟨cxl, cxh⟩ ⟨cyl, cyh⟩ ⟨wxl, wxh⟩ ⟨wyl, wyh⟩ rs with
    | false =>
     have e1 := kn_no (HPO.out.symm.trans hpo)
     rw [e1] at hk
     have HK := Lib.hid hk
     clear hk e1 hpo
     simp only [couldP, Bool.false_eq_true, if_false]
     repeat' (first | (refine W.label ?_; simp only [tN, bN, eN, true_and]) | refine go1 ?_ | (apply U6; exact Z1; exact Z1; (focus (simp only [List.nil_append, List.append_nil]; first | exact H102.out _ _ | exact HK.out _ _ rfl)); simp only [pM, pN, rR, rP]) | refine go2 (fun hh => ?_) (fun hh => ?_) | fail)
     all_goals (simp only [resV_def (X := dX cHE) Tryz.func132, Tryz.results132]; first | exact J5 | refine J6 ?_)
     exact isNew_mk Blt.nil
    | true =>
     obtain ⟨la, lb, e1, ou1, ou2, tu1, tu2⟩ := kn_yes (HPO.out.symm.trans hpo)
     rw [e1] at hk
     have HK := Lib.hid hk
     clear hk e1 hpo
     simp only [couldP, if_true]
     have HP := Lib.hid (show (fun n => (boxL err ss hs).any (canB ⟨cxl, cxh⟩ ⟨cyl, cyh⟩ ⟨wxl, wxh⟩ ⟨wyl, wyh⟩ rs n)) = fun n => (boxL err ss hs).any (canB ⟨cxl, cxh⟩ ⟨cyl, cyh⟩ ⟨wxl, wxh⟩ ⟨wyl, wyh⟩ rs n) from rfl)
     generalize hpp : (fun n => (boxL err ss hs).any (canB ⟨cxl, cxh⟩ ⟨cyl, cyh⟩ ⟨wxl, wxh⟩ ⟨wyl, wyh⟩ rs n)) = p
     have HPP := Lib.hid (show ∀ n, p n = (boxL err ss hs).any (canB ⟨cxl, cxh⟩ ⟨cyl, cyh⟩ ⟨wxl, wxh⟩ ⟨wyl, wyh⟩ rs n) from fun n => by rw [<- hpp])
     clear hpp HP
     repeat' (first | (refine W.label ?_; simp only [tN, bN, eN, true_and]) | refine go1 ?_ | (apply U6; exact Z1; exact Z1; (focus (simp only [List.nil_append, List.append_nil]; first | exact H102.out _ _ | exact HK.out _ _ rfl)); simp only [pM, pN, rR, rP]) | refine go2 (fun hh => ?_) (fun hh => ?_) | fail)
     refine W.loopN 12 (fun k F => ∃ e lm hp q, F = Fr.mk 132 false e lm hp [] none /\ cellI 2 1 (natsV (couldN p k)) hp /\ hp.get 1 = some (.var [sa, .int .i64 cxl, .int .i64 cxh, .int .i64 cyl, .int .i64 cyh, .int .i64 wxl, .int .i64 wxh, .int .i64 wyl, .int .i64 wyh, ra, .map 0]) /\ hp.get q = some (.var [.int .i64 ↑(k + 1)]) /\ 2 < q /\ q < hp.next /\
      lm.get 2 = some (0, [sa, .int .i64 cxl, .int .i64 cxh, .int .i64 cyl, .int .i64 cyh, .int .i64 wxl, .int .i64 wxh, .int .i64 wyl, .int .i64 wyh, ra]) /\ lm.get 3 = some (0, [ha, .int .i64 err]) /\ e.get 2 = some (.lptr 2 0 0) /\ e.get 3 = some (.lptr 3 0 0) /\ e.get 6 = some (.ptr 1 0) /\ e.get 9 = some (.ptr 2 0) /\ e.get 10 = some (.ptr q 0) /\ k <= 12) ?_ ?_
     ·refine ⟨_, _, _, 3, rfl, ⟨by simp only; omega, .nilslice, rfl, Blt.nil⟩, rfl, rfl, by omega, by simp only; omega, ?_, ?_, ?_, ?_, ?_, ?_, ?_, ?_⟩ <;> first | exact Z2 | simp [go_sem, *]
     rintro k F ⟨e, lm, ⟨qn, qm⟩, q, rfl, hcell, g1, gq, hq2, hqn, hl2, hl3, h2, h3, h6, h9, h10, hk⟩
     simp only at hqn
     by_cases hlt : k < 12
     ·have hd : decide (((k + 1 : Nat) : Int) <= 12) = true := by simp; omega
      have hw : IntKind.i64.wrap (((k + 1 : Nat) : Int) + 1) = ((k + 1 + 1 : Nat) : Int) := wrap_succ (k := k + 1) (m := 13) (by omega) (by unfold maxL; omega)
      have okc : OwnOk (fun (s : List Nat) h => cellI 2 1 (natsV s) h /\ s.length <= 12) (cellO 2) := cell_ok 2 1 natsV (fun s => s.length <= 12)
      have i0 : cellI 2 1 (natsV (couldN p k)) ⟨qn, qm⟩ /\ (couldN p k).length <= 12 := ⟨hcell, by have := couldN_len p k; omega⟩
      have no1 : ¬ cellO 2 ⟨qn, qm⟩ 1 := cell_not hcell (by omega) g1
      have noq : ¬ cellO 2 ⟨qn, qm⟩ q := cell_not hcell (by omega) gq
      have G1 := Lib.hid g1
      have GQ := Lib.hid gq
      simp only [hp_get] at g1 gq
      repeat' (first | (refine W.label ?_; simp only [tN, bN, eN, true_and]) | refine go1 ?_ | (apply U6; exact Z1; exact Z1; (focus (simp only [List.nil_append, List.append_nil]; first | exact HC113.out _ _)); simp only [pM, pN, rR, rP]) | refine go2 (fun hh => ?_) (fun hh => ?_) | fail)
      have X2 : ∀ blk, HExt ⟨qn, qm⟩ (Heap.new ⟨qn + 1 + 1, (qm.set qn (.var [sa])).set (qn + 1) (.var [ha, .int .i64 err])⟩ blk) := fun blk => by
       refine ⟨by simp only [Heap.new]; omega, fun id hid => ?_⟩
       simp only at hid
       rw [Heap.get_new, if_neg (by simp only; omega), hget_set, if_neg (by omega), hget_set, if_neg (by omega)]
       rfl
      have I2 := fun blk => (okc.ext _ _ _ i0 (X2 blk)).1
      have R2 := fun blk => okc.rel i0 (X2 blk)
      have F2 : ∀ blk id, qn <= id -> ¬ cellO 2 (Heap.new ⟨qn + 1 + 1, (qm.set qn (.var [sa])).set (qn + 1) (.var [ha, .int .i64 err])⟩ blk) id := fun blk id hid ho => by
       have := okc.lt _ _ id i0 ((okc.ext _ _ _ i0 (X2 blk)).2 id ho)
       simp only at this
       omega
      have N2 : ∀ blk, (Heap.new ⟨qn + 1 + 1, (qm.set qn (.var [sa])).set (qn + 1) (.var [ha, .int .i64 err])⟩ blk).next = qn + 1 + 1 + 1 := fun _ => rfl
      have GA : ∀ blk, (Heap.new ⟨qn + 1 + 1, (qm.set qn (.var [sa])).set (qn + 1) (.var [ha, .int .i64 err])⟩ blk).get qn = some (.var [sa]) := fun blk => by
       rw [Heap.get_new, if_neg (by simp only; omega), hget_set, if_neg (by omega), hget_set, if_pos rfl]
      have GB : ∀ blk, (Heap.new ⟨qn + 1 + 1, (qm.set qn (.var [sa])).set (qn + 1) (.var [ha, .int .i64 err])⟩ blk).get (qn + 1) = some (.var [ha, .int .i64 err]) := fun blk => by
       rw [Heap.get_new, if_neg (by simp only; omega), hget_set, if_pos rfl]
      have GL : ∀ blk, (Heap.new ⟨qn + 1 + 1, (qm.set qn (.var [sa])).set (qn + 1) (.var [ha, .int .i64 err])⟩ blk).get (qn + 1 + 1) = some blk := fun blk => by
       rw [Heap.get_new, if_pos rfl]
      apply W.rangeEnds (R := stU (fun (s : List Nat) h => cellI 2 1 (natsV s) h /\ s.length <= 12) (fun (s : List Nat) h => cellI 2 1 (natsV s) h /\ ∃ f e ps a b, h.get (qn + 1 + 1) = some (.loop f e ps a b .done (some (.exit 1)))) (cellO 2) (fun id => id = qn + 1 + 1) _ (foldS (stepC (canB ⟨cxl, cxh⟩ ⟨cyl, cyh⟩ ⟨wxl, wxh⟩ ⟨wyl, wyh⟩ rs (k + 1)) (k + 1)) (boxL err ss hs) (couldN p k)))
      ·exact Z1
      ·refine G163 (fun (s : List Nat) h => cellI 2 1 (natsV s) h /\ s.length <= 12) (fun (s : List Nat) h => cellI 2 1 (natsV s) h /\ ∃ f e ps a b, h.get (qn + 1 + 1) = some (.loop f e ps a b .done (some (.exit 1)))) (cellO 2) okc (stepC (canB ⟨cxl, cxh⟩ ⟨cyl, cyh⟩ ⟨wxl, wxh⟩ ⟨wyl, wyh⟩ rs (k + 1)) (k + 1)) (fun _ _ => True) (fun _ _ _ _ _ _ => trivial) cHE rfl rfl rfl rfl rfl rfl rfl rfl (qn + 1 + 1) qn (qn + 1) sa ha err ss hs HL.out HH.out HSL.out hn1 hn8 _ (couldN p k)
        (GA _) (GB _) (by rw [N2]; omega) (by rw [N2]; omega) (by rw [N2]; omega) (F2 _ _ (by omega)) (F2 _ _ (by omega)) (I2 _) trivial ?_ ?_
       ·rintro s h id b f e ps a d st pp ⟨i, f', e', ps', a', b', hL⟩ hne hg
        exact ⟨cell_put i ⟨fun vs e => (by rw [hg] at e; cases e), fun z r e => (by rw [hg] at e; cases e)⟩, f', e', ps', a', b', by rw [Heap.get_put, if_neg hne]; exact hL⟩
       intro s y _ h1' _ i3 kx
       have kL := kx.2 (qn + 1 + 1) (by rw [N2]; omega) (F2 _ _ (by omega))
       have hL := kL.1.trans (GL _)
       have fL := kL.2
       have lL1 : qn + 1 + 1 < h1'.next := Nat.lt_of_lt_of_le (by rw [N2]; omega) kx.1
       have rel1 := (R2 _).trans kx
       have w1 := (rel1.2 1 (by simp only; omega) no1).1.trans G1.out
       have wq := (rel1.2 q (by simp only; omega) noq).1.trans GQ.out
       obtain ⟨er, hE, hL⟩ : ∃ er, er = _ /\ h1'.get (qn + 1 + 1) = some (.loop 132 er _ _ _ .ready none) := ⟨_, rfl, hL⟩
       have r6 : er.get 6 = some (.ptr 1 0) := by rw [hE, Mp.get_map]; simp [go_sem, *, noBox]
       have r9 : er.get 9 = some (.ptr 2 0) := by rw [hE, Mp.get_map]; simp [go_sem, *, noBox]
       have r10 : er.get 10 = some (.ptr q 0) := by rw [hE, Mp.get_map]; simp [go_sem, *, noBox]
       have HHL := Lib.hid hL
       have HI3 := Lib.hid i3
       have HFL := Lib.hid fL
       refine round_ok' hL rfl ?_
       clear hE hL kL fL rel1 i3 kx X2 I2 R2 F2 N2 GA GB GL h2 h3 h6 h9 h10 g1 gq hcell i0 hl2 hl3
       simp only [bxC]
       repeat' (first | refine goS ?_ | refine go2 (fun hh => ?_) (fun hh => ?_) | fail)
       rintro ⟨zn, zm⟩ hzn hzg hzL
       have q1 := (hzg 1 (by omega)).trans w1
       have qq := (hzg q (by omega)).trans wq
       have bi := rnd_in okc HI3.out hzn hzg HFL.out
       have bg : ∀ s4 h', _ -> Rel (cellO 2) ⟨zn, zm⟩ h' -> _ := fun s4 h' => back_go okc (s4 := s4) (h' := h') HI3.out hzn hzg HHL.out HFL.out lL1
       have lz : qn + 1 + 1 < zn := by rw [show zn = h1'.next from hzn]; exact lL1
       have HBI := Lib.hid bi
       have HBG := Lib.hid bg
       have HZL := Lib.hid hzL
       have HZN := Lib.hid hzn
       have HZG := Lib.hid hzg
       simp only [hp_get] at q1 qq
       clear hzn hzg hzL w1 wq bi bg
       have hy := fun hp mv hmv => HHY.out (k + 1) y hp mv hmv
       cases hcan : canB ⟨cxl, cxh⟩ ⟨cyl, cyh⟩ ⟨wxl, wxh⟩ ⟨wyl, wyh⟩ rs (k + 1) y with
       | false =>
        rw [kn_no hcan] at hy
        have HY := Lib.hid hy
        have HCAN := Lib.hid hcan
        clear hy hcan
        repeat' (first | refine goS ?_ | (apply U6; exact Z1; exact Z1; (focus (simp only [List.nil_append, List.append_nil]; first | exact HY.out _ _ rfl)); simp only [pM, pN, rR, rP]) | refine go2 (fun hh => ?_) (fun hh => ?_) | fail)
        rw [roundQ_norm]
        simp only [endV, HZL.out]
        have := HBG.out s _ HBI.out.1 (Rel.refl _ _)
        exact stR_go (by simp [stepC, HCAN.out]) this.1 this.2
       | true =>
        obtain ⟨lc, ld, e1, oc, od, tc, td⟩ := kn_yes hcan
        rw [e1] at hy
        have HY := Lib.hid hy
        have HCAN := Lib.hid hcan
        obtain ⟨⟨hb2, v, gv, bv⟩, hsl⟩ := HBI.out.1
        have HBV := Lib.hid bv
        have GV := Lib.hid gv
        have ov := bv.out
        have hvn : ∀ id vs, (Heap.mk zn zm).get id = some (.var vs) -> ∀ off n, v ≠ .row id off n := fun id vs hg => bv.ne_row (fun z r => by rw [hg]; simp)
        have HVN := Lib.hid hvn
        have hll : s.length + (0 + 1) <= most := by unfold most; omega
        simp only [hp_get] at gv
        clear hy hcan e1 bv hvn
        repeat' (first | (apply WO1.appendE (t := 39) (u := 39) (e := 3) (e' := 3) (sz := 1) (tl := []) (hb := HBV.out); exact Z1; exact rfl; exact Z2; exact Z2; exact Z2; (focus (exact ty_row39)); exact Z1; (focus (intro v hv; simp at hv; subst hv; rfl)); (focus (simp only [natsV_len, List.length_cons, List.length_nil]; exact hll)); (focus (simp)); (intro v1 hp1 hB1 ho1 hK1 hE1; have hc1 := hB1.cells; have ht1 := hB1.tup; simp only [AV.cells] at hc1; simp only [isTuple] at ht1; obtain ⟨n1, m1⟩ := hp1; have hg2 := (hK1.2 2 hb2 (HVN.out 2 _ GV.out)).trans GV.out; simp only [hp_get] at hg2; have HG2 := Lib.hid hg2; have HK1 := Lib.hid hK1; have HB1 := Lib.hid hB1; clear hK1 hB1 hE1; simp only [pM, pN])) | refine go1 ?_ | (apply U6; exact Z1; exact Z1; (focus (simp only [List.nil_append, List.append_nil]; first | exact HY.out _ _ rfl)); simp only [pM, pN, rR, rP]) | refine go2 (fun hh => ?_) (fun hh => ?_) | fail)
        rw [roundQ_exit]
        have kL := (HK1.out.2 (qn + 1 + 1) lz (HBV.out.ne_row (fun z r => by rw [HZL.out]; simp))).trans HZL.out
        simp only [hp_get] at kL
        have d2 : ¬ 2 = qn + 1 + 1 := by omega
        simp only [endV, hp_get, Mp.get_set, d2, if_false, kL, hp_put]
        have bs := HB1.out
        refine stR_end (s := s ++ [k + 1]) (by simp [stepC, HCAN.out]) ⟨⟨⟨?_, v1, ?_, ?_⟩, ?_⟩, ?_, ?_⟩
        ·simp only; exact Nat.lt_of_lt_of_le hb2 HK1.out.1
        ·rw [hp_get, Mp.get_set, if_neg (fun e => d2 e.symm), Mp.get_set, if_pos rfl]
        ·have hne2 : ∀ z r, (Heap.mk n1 m1).get 2 ≠ some (.rw z r) := fun z r e => by rw [hp_get, HG2.out] at e; cases e
         have hneL : ∀ z r, (Heap.mk n1 m1).get (qn + 1 + 1) ≠ some (.rw z r) := fun z r e => by rw [hp_get, kL] at e; cases e
         have b2 := (bs.putv (bl := .var [v1]) hne2)
         have e4 : natsV (s ++ [k + 1]) = natsV s ++ [.int .i64 ((k + 1 : Nat) : Int)] := by simp [natsV]
         rw [e4]
         exact b2.putv (id := qn + 1 + 1) (fun z r e => by rw [Heap.get_put, if_neg d2] at e; exact hneL z r e)
        ·exact ⟨_, _, _, _, _, by rw [hp_get, Mp.get_set, if_pos rfl]⟩
        ·show h1'.next <= n1
         rw [<- HZN.out]; exact HK1.out.1
        ·intro id hid he ho
         have e2 : ¬ 2 = id := fun e => ho (.inl e.symm)
         rw [hp_get, Mp.get_set, if_neg (fun e => he e.symm), Mp.get_set, if_neg e2]
         have q3 := HK1.out.2 id (by rw [show (Heap.mk zn zm).next = h1'.next from HZN.out]; exact hid) (fun off n e => ho (HBI.out.2 _ (.inr ⟨off, n, by rw [GV.out, e]⟩)))
         rw [hp_get] at q3
         rw [q3]
         exact HZG.out id he
      ·intro r hcl hR
       have HR2 := Lib.hid R2
       rcases stU_or hR with ⟨s4, h', ex, rfl, i4, kr⟩ | ⟨s4, h', ex, rfl, ⟨d4, f, e1, ps, a1, b1, hb⟩, ke⟩
       ·have kL := kr.2 (qn + 1 + 1) (by rw [N2]; omega) (F2 _ _ (by omega))
        have hL := kL.1.trans (GL _)
        have hfin := fun bl => fin_go okc (bl := bl) (h0 := ⟨qn, qm⟩) (L1 := qn + 1 + 1) (by simp only; omega) ((R2 _).trans kr) i4 kL.2
        refine W.rangeNorm rfl ?_ hcl hL (fun e => by cases e) ?_
        ·first | exact Z2 | exact Z1
        clear hcl hL
        generalize hput : Heap.put h' _ _ = hz
        have hf : (cellI 2 1 (natsV s4) hz /\ s4.length <= 12) /\ Rel (cellO 2) ⟨qn, qm⟩ hz := by rw [<- hput]; exact hfin _
        have hs4 : s4 = couldN p (k + 1) := by
         rw [foldS_any] at ex
         split at ex
         ·cases ex
         ·rename_i hany
          cases ex
          rw [couldN_succ, if_neg (by rw [HPP.out]; exact hany)]
        obtain ⟨zn, zm⟩ := hz
        have z1 := (hf.2.2 1 (by simp only; omega) no1).1.trans G1.out
        have zq := (hf.2.2 q (by simp only; omega) noq).1.trans GQ.out
        have hzn : qn <= zn := hf.2.1
        have i5 := hf.1
        rw [hs4] at i5
        simp only [hp_get] at z1 zq
        have hx5 : ∀ b, HExt ⟨zn, zm⟩ ⟨zn + 1, zm.set zn b⟩ := fun b => ⟨by simp only; omega, fun id hid => by simp only at hid; rw [hget_set, if_neg (by omega)]; rfl⟩
        have HX5 := Lib.hid hx5
        have HI5 := Lib.hid i5
        have n1 : (zn == q) = false := beq_eq_false_iff_ne.2 (by omega)
        have n2 : (zn == 1) = false := beq_eq_false_iff_ne.2 (by omega)
        clear hput hfin hf kL kr ex i4 hR X2 I2 R2 F2 N2 GA GB GL hs4 hx5 i5 i0 hcell
        simp only [bN, tN]
        repeat' (first | (refine W.label ?_; simp only [tN, bN, eN, true_and]) | refine go1 ?_ | refine go2 (fun hh => ?_) (fun hh => ?_) | fail)
        refine ⟨hlt, _, _, _, zn, rfl, (okc.ext _ _ _ HI5.out ⟨by simp only; omega, fun id hid => ?_⟩).1.1, ?_, ?_, by omega, by simp only; omega, ?_, ?_, ?_, ?_, ?_, ?_, ?_, by omega⟩
        ·simp only at hid
         rw [hget_set, if_neg (by omega), hget_set, if_neg (by omega), hget_set, if_neg (by omega)]
         rfl
        all_goals first | exact Z2 | simp [go_sem, *]
       ·refine W.rangeExit (ps := []) rfl ?_ hcl hb (fun e => by cases e) ?_
        ·first | exact Z2 | exact Z1
        have hE2 := (R2 _).stop ke
        have hs4 : s4 = couldN p (k + 1) := by
         rw [foldS_any] at ex
         split at ex
         ·rename_i hany
          cases ex
          rw [couldN_succ, if_pos (by rw [HPP.out]; exact hany)]
         ·cases ex
        have d5 : ∀ bl, cellI 2 1 (natsV s4) (h'.put (qn + 1 + 1) bl) := fun bl => cell_put d4 ⟨fun vs e => (by rw [hb] at e; cases e), fun z r e => (by rw [hb] at e; cases e)⟩
        have hz1 := hE2.2 1 (by simp only; omega) (by omega) no1
        have hzq := hE2.2 q (by simp only; omega) (by omega) noq
        have hzn := hE2.1
        clear hcl
        generalize hput : Heap.put h' _ _ = hz
        have i5 : cellI 2 1 (natsV s4) hz := by rw [<- hput]; exact d5 _
        rw [hs4] at i5
        have z1 := (show hz.get 1 = Heap.get ⟨qn, qm⟩ 1 by rw [<- hput, Heap.get_put, if_neg (show ¬ qn + 1 + 1 = 1 by omega)]; exact hz1).trans G1.out
        have zq := (show hz.get q = Heap.get ⟨qn, qm⟩ q by rw [<- hput, Heap.get_put, if_neg (show ¬ qn + 1 + 1 = q by omega)]; exact hzq).trans GQ.out
        have hzn : qn <= hz.next := by rw [<- hput]; exact hzn
        obtain ⟨zn, zm⟩ := hz
        simp only at hzn
        simp only [hp_get] at z1 zq
        have HI5 := Lib.hid i5
        have n1 : (zn == q) = false := beq_eq_false_iff_ne.2 (by omega)
        have n2 : (zn == 1) = false := beq_eq_false_iff_ne.2 (by omega)
        clear hput hE2 d5 hz1 hzq ke ex d4 hR X2 I2 R2 F2 N2 GA GB GL hs4 i5 hb i0 hcell
        simp only [tX, bS, bO, Nat.reduceBEq, tN, bN]
        repeat' (first | (refine W.label ?_; simp only [tN, bN, eN, true_and]) | refine go1 ?_ | refine go2 (fun hh => ?_) (fun hh => ?_) | fail)
        refine ⟨hlt, _, _, _, zn, rfl, ((cell_ok 2 1 natsV (fun _ => True)).ext (couldN p (k + 1)) _ _ ⟨HI5.out, trivial⟩ ⟨by simp only; omega, fun id hid => ?_⟩).1.1, ?_, ?_, by omega, by simp only; omega, ?_, ?_, ?_, ?_, ?_, ?_, ?_, by omega⟩
        ·simp only at hid
         rw [hget_set, if_neg (by omega), hget_set, if_neg (by omega), hget_set, if_neg (by omega)]
         rfl
        all_goals first | exact Z2 | simp [go_sem, *]
     ·have hd : decide (((k + 1 : Nat) : Int) <= 12) = false := by simp; omega
      have hk12 : k = 12 := by omega
      subst hk12
      obtain ⟨hb2, v, gv, bv⟩ := hcell
      have HBV := Lib.hid bv
      have ov := bv.out
      have tv := bv.tup
      have cv := bv.cells
      simp only [AV.cells] at cv
      simp only [isTuple] at tv
      simp only [hp_get] at g1 gq gv
      clear bv hlt
      repeat' (first | (refine W.label ?_; simp only [tN, bN, eN, true_and]) | refine go1 ?_ | refine go2 (fun hh => ?_) (fun hh => ?_) | fail)
      all_goals (simp only [resV_def (X := dX cHE) Tryz.func132, Tryz.results132]; first | exact J5 | refine J6 ?_)
      exact isNew_mk HBV.out
   ·cases h
  ·cases h
 ·cases h
end Go.AM
namespace Go.AM
open Go
variable [Keep]
section
variable {X : Ctx} {ops : Array Oper} {K P : AV -> Fr -> Prop} {F : Fr} {d : Option Tmp} {T : TypeId} {p : String} {af : Array Edge}
end
section
variable {X : Ctx} {f : FuncId} {ops : Array Oper} {ts : List (Nat × Trace)} {i k j : Nat} {r : List (Nat × Nat)} {x y o : Oper} {d : Option Tmp} {op : Op} {T : TypeId} {ps : String} {af : Array Edge} {want b : Bool} {s : Tmp}
  {f1 f2 : FuncId} {r1 r2 : Bool} {e1 e2 : Mp AV} {lm1 lm2 : Mp (Nat × List AV)} {hp1 hp2 : Heap} {df1 df2 : List (AV × List AV)} {up1 up2 : Option (AV × Bool)} {v1 v2 : AV} {a1 a2 b2 : Fr}
theorem calmR (h1 : ops[i]? = some ⟨d, op, T, ps, af, none⟩) (h2 : ops[k]? = some y) (h3 : traceOf ts i = some ⟨Fr.mk f1 r1 e1 lm1 hp1 df1 up1, v1, a1⟩) (h4 : traceOf ts k = some ⟨b2, v2, Fr.mk f2 r2 e2 lm2 hp2 df2 up2⟩)
  (h5 : isEffD X f ⟨d, op, T, ps, af, none⟩ = false) (h7 : rdV X (Fr.mk f1 r1 e1 lm2 hp2 df1 up1) d op = some v1) (h8 : r.all (calmPair X f ops ts) = true) : ((i, k) :: r).all (calmPair X f ops ts) = true := by
 simp only [List.all_cons, h8, Bool.and_true, calmPair, h1, h2, h3, h4, h5, Bool.false_eq_true, if_false, rereads, wantedA, if_true, h7]
 exact AV.same_refl _
theorem calmE (h1 : ops[i]? = some x) (h2 : ops[k]? = some ⟨d, op, T, ps, af, none⟩) (h3 : traceOf ts i = some ⟨Fr.mk f1 r1 e1 lm1 hp1 df1 up1, v1, a1⟩) (h4 : traceOf ts k = some ⟨Fr.mk f2 r2 e2 lm2 hp2 df2 up2, v2, a2⟩)
  (h5 : isEffD X f x = true) (h7 : rdV X (Fr.mk f2 r2 e2 lm1 hp1 df2 up2) d op = some v2) (h8 : r.all (calmPair X f ops ts) = true) : ((i, k) :: r).all (calmPair X f ops ts) = true := by
 simp only [List.all_cons, h8, Bool.and_true, calmPair, h1, h2, h3, h4, h5, if_true, rereads, wantedA, h7]
 exact AV.same_refl _
theorem calmEnd : ([] : List (Nat × Nat)).all (calmPair X f ops ts) = true := rfl
end
end Go.AM
namespace Go.AM
open Go
variable [Keep]
def SeeV {α : Type} (h : Heap) (c : Cd α) (a : AV) (l : List α) : Prop := ∃ a', viewV h a = some a' /\ slV c a' = some l
theorem SeeV.of {α : Type} {c : Cd α} {a : AV} {l : List α} (hl : slV c a = some l) (h : Heap) : SeeV h c a l := by
 have hp := sl_pur hl
 rcases (slV_is hl).1 with ⟨rfl | rfl, _⟩ | rfl
 ·exact ⟨_, rfl, hl⟩
 ·exact ⟨_, rfl, hl⟩
 ·exact ⟨_, by simp only [viewV, hp, if_true], hl⟩
theorem viewD_mach {h : Heap} {sa ra sa' ra' : AV} {cxl cxh cyl cyh wxl wxh wyl wyh : Int} (h1 : viewV h sa = some sa') (h2 : viewV h ra = some ra') :
  viewD h (.agg [sa, .int .i64 cxl, .int .i64 cxh, .int .i64 cyl, .int .i64 cyh, .int .i64 wxl, .int .i64 wxh, .int .i64 wyl, .int .i64 wyh, ra]) = some (.agg [sa', .int .i64 cxl, .int .i64 cxh, .int .i64 cyl, .int .i64 cyh, .int .i64 wxl, .int .i64 wxh, .int .i64 wyl, .int .i64 wyh, ra']) := by
 have e : ∀ n, viewV h (.int .i64 n) = some (.int .i64 n) := fun n => rfl
 simp only [viewD, viewVs, h1, h2, e, Option.map_some]
theorem viewD_but {h : Heap} {ha ha' : AV} {err : Int} (h1 : viewV h ha = some ha') : viewD h (.agg [ha, .int .i64 err]) = some (.agg [ha', .int .i64 err]) := by
 have e : ∀ n, viewV h (.int .i64 n) = some (.int .i64 n) := fun n => rfl
 simp only [viewD, viewVs, h1, e, Option.map_some]
end Go.AM
namespace Go.AM
open Go Go.Proofs
variable [Keep]
attribute [local irreducible] W WO WO1 WD WQ WT thenQ blockQ endR isRet retK Cl ClR
theorem slLen_mk {a : AV} {es : List AV} (h : isSl a es) : slLen a = some es.length := by rcases h with ⟨rfl | rfl, rfl⟩ | rfl <;> rfl
end Go.AM
namespace Go.AM
open Go Go.Proofs
variable [Keep]
attribute [local irreducible] W WO WO1 WD WQ WT thenQ blockQ endR isRet retK Cl ClR
attribute [local irreducible] isNew roundQ RdR clR boundsS machB boxL suitB
def couldE (suit is : Bool) (l : List Nat) : List AV × List AV := if suit then (if is then (natsV l, [.int .i64 0]) else ([], [.int .i64 7])) else ([], [.int .i64 2])
theorem couldE_flat (s is : Bool) (l : List Nat) : (∀ e ∈ (couldE s is l).1, ∀ x ∈ e.cells, x.flat = true) /\ ∀ x ∈ (couldE s is l).2, x.flat = true := by
 unfold couldE
 cases s
 ·simp [AV.flat]
 ·cases is
  ·simp [AV.flat]
  ·exact ⟨natsV_flat l, by simp [AV.flat]⟩
def sp63 : List AV -> Option (List AV × List AV)
 | [.agg [sa, .int .i64 cxl, .int .i64 cxh, .int .i64 cyl, .int .i64 cyh, .int .i64 wxl, .int .i64 wxh, .int .i64 wyl, .int .i64 wyh, ra], .agg [ha, .int .i64 err]] => match slV ptC sa, slV rdgC ra, slV ptC ha with
  | some ss, some rs, some hs => some (couldE (suitB (machB ss ⟨cxl, cxh⟩ ⟨cyl, cyh⟩ ⟨wxl, wxh⟩ ⟨wyl, wyh⟩ rs) ss hs err) (possB ⟨cxl, cxh⟩ ⟨cyl, cyh⟩ ⟨wxl, wxh⟩ ⟨wyl, wyh⟩ rs) (couldN (fun n => (boxL err ss hs).any (canB ⟨cxl, cxh⟩ ⟨cyl, cyh⟩ ⟨wxl, wxh⟩ ⟨wyl, wyh⟩ rs n)) 12))
  | _, _, _ => none
 | _ => none
theorem p63 : ∀ args el rest, sp63 args = some (el, rest) -> (∀ e ∈ el, ∀ x ∈ e.cells, x.flat = true) /\ ∀ x ∈ rest, x.flat = true := by
 intro args el rest h
 unfold sp63 at h
 split at h
 ·split at h
  ·have h := Option.some.inj h
   have e1 := congrArg Prod.fst h
   have e2 := congrArg Prod.snd h
   simp only at e1 e2
   rw [<- e1, <- e2]
   exact couldE_flat _ _ _
  ·cases h
 ·cases h
noncomputable def cHF : Itr
 | 112 => some (pureFn sp112)
 | 132 => some (newFn 1 sp132)
 | _ => none
theorem cHF_sound : Sound (dX cHF) := dX_sound (fun f g h => by
 unfold cHF at h
 split at h
 ·cases h; exact F112
 ·cases h; exact F132
 ·cases h)
theorem mach_small {ss : List Pt} {cx cy wx wy : Sp} {rs : List Rdg} (h : machB ss cx cy wx wy rs = true) : 2 <= ss.length /\ ss.length <= 4 /\ rs.length <= 4 := by
 unfold machB at h
 simp only [Bool.and_eq_true, decide_eq_true_eq] at h
 have h1 : allB ss 2 20 = true := by simp only [h]
 rw [allB_P] at h1
 simp only [pointsB, inB, Bool.and_eq_true, decide_eq_true_eq] at h1
 omega
theorem suit_small {ss hs : List Pt} {cx cy wx wy : Sp} {rs : List Rdg} {err : Int} (h : suitB (machB ss cx cy wx wy rs) ss hs err = true) : machB ss cx cy wx wy rs = true /\ butB hs err = true /\ hs.length = ss.length /\ 2 <= ss.length /\ ss.length <= 4 /\ rs.length <= 4 := by
 unfold suitB at h
 simp only [Bool.and_eq_true, decide_eq_true_eq] at h
 exact ⟨h.1.1, h.1.2, h.2, mach_small h.1.1⟩
theorem K132 {X : Ctx} (hX : X.intr 132 = some (newFn 1 sp132)) (sa ra ha : AV) (ss hs : List Pt) (rs : List Rdg) (cx cy wx wy : Sp) (err : Int) (h : Heap) (hl : SeeV h ptC sa ss) (hr : SeeV h rdgC ra rs) (hh : SeeV h ptC ha hs) (hg : suitB (machB ss cx cy wx wy rs) ss hs err = true) :
  ∃ v h', Cl X 132 [.agg [sa, .int .i64 cx.lo, .int .i64 cx.hi, .int .i64 cy.lo, .int .i64 cy.hi, .int .i64 wx.lo, .int .i64 wx.hi, .int .i64 wy.lo, .int .i64 wy.hi, ra], .agg [ha, .int .i64 err]] h (.ret (.tuple [v, .bool (possB cx cy wx wy rs)]) h' none) /\
   Blt h' v 1 (if possB cx cy wx wy rs then natsV (couldN (fun n => (boxL err ss hs).any (canB cx cy wx wy rs n)) 12) else []) /\ HExt h h' := by
 obtain ⟨sa', v1, s1⟩ := hl
 obtain ⟨ra', v2, s2⟩ := hr
 obtain ⟨ha', v3, s3⟩ := hh
 obtain ⟨_, _, h1, h2, h3, h4⟩ := suit_small hg
 have e : (decide (hs.length = ss.length) && decide (1 <= ss.length) && decide (ss.length <= 8) && decide (rs.length <= 1000)) = true := by
  simp only [Bool.and_eq_true, decide_eq_true_eq]; omega
 have hv : viewDs h [.agg [sa, .int .i64 cx.lo, .int .i64 cx.hi, .int .i64 cy.lo, .int .i64 cy.hi, .int .i64 wx.lo, .int .i64 wx.hi, .int .i64 wy.lo, .int .i64 wy.hi, ra], .agg [ha, .int .i64 err]] = some [.agg [sa', .int .i64 cx.lo, .int .i64 cx.hi, .int .i64 cy.lo, .int .i64 cy.hi, .int .i64 wx.lo, .int .i64 wx.hi, .int .i64 wy.lo, .int .i64 wy.hi, ra'], .agg [ha', .int .i64 err]] := by
  simp only [viewDs, viewD_mach v1 v2, viewD_but v3]
 have hs : sp132 [.agg [sa', .int .i64 cx.lo, .int .i64 cx.hi, .int .i64 cy.lo, .int .i64 cy.hi, .int .i64 wx.lo, .int .i64 wx.hi, .int .i64 wy.lo, .int .i64 wy.hi, ra'], .agg [ha', .int .i64 err]] = some (if possB cx cy wx wy rs then natsV (couldN (fun n => (boxL err ss hs).any (canB cx cy wx wy rs n)) 12) else [], [.bool (possB cx cy wx wy rs)]) := by
  simp only [sp132, s1, s2, s3, e, if_true, couldP]
  cases possB cx cy wx wy rs <;> rfl
 exact Cl.new hX hv hs
theorem K63 {X : Ctx} (hX : X.intr 63 = some (newFn 1 sp63)) (sa ra ha : AV) (ss hs : List Pt) (rs : List Rdg) (cx cy wx wy : Sp) (err : Int) (h : Heap) (hl : SeeV h ptC sa ss) (hr : SeeV h rdgC ra rs) (hh : SeeV h ptC ha hs) (suit poss : Bool) (l : List Nat)
  (e1 : suitB (machB ss cx cy wx wy rs) ss hs err = suit) (e2 : possB cx cy wx wy rs = poss) (e3 : couldN (fun n => (boxL err ss hs).any (canB cx cy wx wy rs n)) 12 = l) :
  ∃ v h', Cl X 63 [.agg [sa, .int .i64 cx.lo, .int .i64 cx.hi, .int .i64 cy.lo, .int .i64 cy.hi, .int .i64 wx.lo, .int .i64 wx.hi, .int .i64 wy.lo, .int .i64 wy.hi, ra], .agg [ha, .int .i64 err]] h (.ret (.tuple [v, .int .i64 (if suit then (if poss then 0 else 7) else 2)]) h' none) /\
   Blt h' v 1 (if suit && poss then natsV l else []) /\ HExt h h' := by
 obtain ⟨sa', v1, s1⟩ := hl
 obtain ⟨ra', v2, s2⟩ := hr
 obtain ⟨ha', v3, s3⟩ := hh
 have hv : viewDs h [.agg [sa, .int .i64 cx.lo, .int .i64 cx.hi, .int .i64 cy.lo, .int .i64 cy.hi, .int .i64 wx.lo, .int .i64 wx.hi, .int .i64 wy.lo, .int .i64 wy.hi, ra], .agg [ha, .int .i64 err]] = some [.agg [sa', .int .i64 cx.lo, .int .i64 cx.hi, .int .i64 cy.lo, .int .i64 cy.hi, .int .i64 wx.lo, .int .i64 wx.hi, .int .i64 wy.lo, .int .i64 wy.hi, ra'], .agg [ha', .int .i64 err]] := by
  simp only [viewDs, viewD_mach v1 v2, viewD_but v3]
 have hs : sp63 [.agg [sa', .int .i64 cx.lo, .int .i64 cx.hi, .int .i64 cy.lo, .int .i64 cy.hi, .int .i64 wx.lo, .int .i64 wx.hi, .int .i64 wy.lo, .int .i64 wy.hi, ra'], .agg [ha', .int .i64 err]] = some (if suit && poss then natsV l else [], [.int .i64 (if suit then (if poss then 0 else 7) else 2)]) := by
  simp only [sp63, s1, s2, s3, couldE, e1, e2, e3]
  cases suit <;> cases poss <;> rfl
 exact Cl.new hX hv hs
set_option maxHeartbeats 1000000 in
theorem F63 : IntrFn Tryz.prog 63 (newFn 1 sp63) := by
 refine new_fn (X := dX cHF) cHF_sound p63 ?_
 intro args el rest h
 unfold sp63 at h
 split at h
 ·rename_i sa cxl cxh cyl cyh wxl wxh wyl wyh ra ha err
  split at h
  ·rename_i ss rs hs hl hr hh
   have h := Option.some.inj h
   have e1 := congrArg Prod.fst h
   have e2 := congrArg Prod.snd h
   simp only at e1 e2
   rw [<- e1, <- e2]
   clear h e1 e2
   have o1 := sl_out hh
   have o2 := sl_out hl
   have o3 := sl_out hr
   obtain ⟨one1, t1⟩ := sl_one hh
   obtain ⟨one2, t2⟩ := sl_one hl
   obtain ⟨one3, t3⟩ := sl_one hr
   have k112 := fun hp => K112 (X := dX cHF) rfl sa ra ha ss hs rs ⟨cxl, cxh⟩ ⟨cyl, cyh⟩ ⟨wxl, wxh⟩ ⟨wyl, wyh⟩ err hl hr hh hp
   have k132 := fun hg => K132 (X := dX cHF) rfl sa ra ha ss hs rs ⟨cxl, cxh⟩ ⟨cyl, cyh⟩ ⟨wxl, wxh⟩ ⟨wyl, wyh⟩ err ⟨0, .nil⟩ (.of hl _) (.of hr _) (.of hh _) hg
   generalize suitB (machB ss ⟨cxl, cxh⟩ ⟨cyl, cyh⟩ ⟨wxl, wxh⟩ ⟨wyl, wyh⟩ rs) ss hs err = suit at *
   generalize possB ⟨cxl, cxh⟩ ⟨cyl, cyh⟩ ⟨wxl, wxh⟩ ⟨wyl, wyh⟩ rs = poss at *
   generalize couldN (fun n => (boxL err ss hs).any (canB ⟨cxl, cxh⟩ ⟨cyl, cyh⟩ ⟨wxl, wxh⟩ ⟨wyl, wyh⟩ rs n)) 12 = l at *
   clear hl hr hh
   refine ClR.walk (c := _) rfl Tryz.func63 rfl (by kernel_rfl) rfl isNew_fail ?_
   simp only [entryEnv, Nat.reduceAdd, emptyHp]
   cases suit with
   | false =>
    simp only [couldE, Bool.false_eq_true, if_false]
    clear k132
    repeat' (first | refine goS ?_ | (apply U6; exact Z1; exact Z1; (focus (simp only [List.nil_append, List.append_nil]; first | exact k112 _)); simp only [pM, pN, rR, rP]) | refine go2 (fun hh => ?_) (fun hh => ?_) | fail)
    all_goals (simp only [resV_def (X := dX cHF) Tryz.func63, Tryz.results63]; first | exact J5 | refine J6 ?_)
    exact isNew_mk Blt.nil
   | true =>
    obtain ⟨v, hp1, hcl, hb, hx⟩ := k132 rfl
    clear k132
    have HX := Lib.hid hx
    have ov := hb.out
    have tv := hb.tup
    have cv := hb.cells
    simp only [AV.cells] at cv
    simp only [isTuple] at tv
    cases poss
    all_goals (
     simp only [couldE, if_true, Bool.false_eq_true, if_false] at hb ⊢
     have HB := Lib.hid hb
     clear hb hx
     repeat' (first | (apply U6; exact Z1; exact Z1; (focus (exact hcl)); simp only [pM, pN, rR, rP]) | refine go1 ?_ | (apply U6; exact Z1; exact Z1; (focus (simp only [List.nil_append, List.append_nil]; first | exact k112 _)); simp only [pM, pN, rR, rP]) | refine go2 (fun hh => ?_) (fun hh => ?_) | fail)
     all_goals (simp only [resV_def (X := dX cHF) Tryz.func63, Tryz.results63]; first | exact J5 | refine J6 ?_))
    ·exact isNew_mk Blt.nil
    ·exact isNew_mk HB.out
  ·cases h
 ·cases h
end Go.AM
namespace Go.AM
open Go Go.Proofs
variable [Keep]
attribute [local irreducible] W WO WO1 WD WQ WT thenQ blockQ endR isRet retK Cl ClR
attribute [local irreducible] isNew roundQ RdR clR boundsS machB boxL suitB
structure MA where
 sa : AV
 ra : AV
 cx : Sp
 cy : Sp
 wx : Sp
 wy : Sp
 ps : sa.pur = true /\ ra.pur = true
def MA.stops (m : MA) : List Pt := (slV ptC m.sa).getD []
def MA.rdgs (m : MA) : List Rdg := (slV rdgC m.ra).getD []
def MA.ok (m : MA) : Bool := (slV ptC m.sa).isSome && (slV rdgC m.ra).isSome
theorem MA.ok_is {m : MA} (h : m.ok = true) : slV ptC m.sa = some m.stops /\ slV rdgC m.ra = some m.rdgs := by
 unfold MA.ok at h
 simp only [Bool.and_eq_true, Option.isSome_iff_exists] at h
 obtain ⟨⟨a, ha⟩, ⟨b, hb⟩⟩ := h
 simp [MA.stops, MA.rdgs, ha, hb]
def MA.mach (m : MA) : Bool := machB m.stops m.cx m.cy m.wx m.wy m.rdgs
def MA.suit (m : MA) (hs : List Pt) (err : Int) : Bool := suitB m.mach m.stops hs err
def MA.poss (m : MA) : Bool := possB m.cx m.cy m.wx m.wy m.rdgs
def MA.could (m : MA) (hs : List Pt) (err : Int) : List Nat := couldN (fun n => (boxL err m.stops hs).any (canB m.cx m.cy m.wx m.wy m.rdgs n)) 12
theorem MA.cells {m : MA} (h : m.ok = true) : m.sa.cells = [m.sa] /\ m.ra.cells = [m.ra] := by
 obtain ⟨h1, h2⟩ := MA.ok_is h
 exact ⟨(slV_is h1).1.cells, (slV_is h2).1.cells⟩
end Go.AM
namespace Go.AM
open Go Go.Proofs
variable [Keep]
attribute [local irreducible] W WO WO1 WD WQ WT thenQ blockQ endR isRet retK Cl ClR
attribute [local irreducible] roundQ RdR clR boundsS machB boxL suitB ordsR lev
def wideB : Bx := ⟨wideS, wideS⟩
def bxI (a b : Bx) : Bx := ⟨interS a.x b.x, interS a.y b.y⟩
def bxEq (a b : Bx) : Bool := (a.x.lo == b.x.lo && a.x.hi == b.x.hi) && (a.y.lo == b.y.lo && a.y.hi == b.y.hi)
def refNow (err : Int) (ss hs : List Pt) (t : Nat) (o : List Nat) (i : Nat) : Bx := nowB err (ss.getD i ⟨0, 0⟩) (turnR (hs.getD (o.getD i 0) ⟨0, 0⟩) (t : Nat))
def refBx (err : Int) (ss hs : List Pt) (t : Nat) (o : List Nat) (n : Nat) : Bx := (List.range n).foldl (fun x i => bxI x (refNow err ss hs t o i)) wideB
def addB (out : List Bx) (x : Bx) : List Bx := if empS x.x || empS x.y || out.any (fun y => bxEq y x) then out else out ++ [x]
def refTo (err : Int) (ss hs : List Pt) (t : Nat) (os : List (List Nat)) (out : List Bx) : List Bx := os.foldl (fun out o => addB out (refBx err ss hs t o ss.length)) out
def refBoxes (err : Int) (ss hs : List Pt) (k : Nat) : List Bx := (List.range k).foldl (fun out t => refTo err ss hs t (lev ss.length ss.length) out) []
theorem addB_len (out : List Bx) (x : Bx) : (addB out x).length <= out.length + 1 := by
 unfold addB
 split <;> simp
theorem refBoxes_succ (err : Int) (ss hs : List Pt) (k : Nat) : refBoxes err ss hs (k + 1) = refTo err ss hs k (lev ss.length ss.length) (refBoxes err ss hs k) := by
 unfold refBoxes
 rw [List.range_succ, List.foldl_append]
 rfl
end Go.AM
namespace Go.AM
open Go
variable [Keep]
def empB (b : Bx) : Bool := empS b.x || empS b.y
theorem bxI_emp {a b : Bx} (h : empB a = true) : empB (bxI a b) = true := by
 simp only [empB, bxI, Bool.or_eq_true] at h ⊢
 exact h.imp emp_inter emp_inter
theorem fold_emp : ∀ (l : List Bx) {x : Bx}, empB x = true -> empB (l.foldl bxI x) = true := by
 intro l
 induction l with
 | nil => intro x h; exact h
 | cons y r ih => intro x h; exact ih (bxI_emp h)
theorem goB_fold : ∀ (l : List Bx) (x : Bx), l ≠ [] \/ empB x = false -> goB l x = if empB (l.foldl bxI x) then none else some (l.foldl bxI x) := by
 intro l
 induction l with
 | nil =>
  intro x h
  rcases h with h | h
  ·exact absurd rfl h
  ·simp [goB, h]
 | cons n r ih =>
  intro x _
  have e : goB (n :: r) x = if empB (bxI x n) then none else goB r (bxI x n) := rfl
  rw [e, List.foldl_cons]
  cases h : empB (bxI x n) with
  | true => simp [fold_emp r h]
  | false => simp only [Bool.false_eq_true, if_false]; exact ih _ (.inr h)
theorem bxI_same (n : Bx) : bxI n n = n := by
 obtain ⟨x, y⟩ := n
 have h : ∀ s : Sp, interS s s = s := fun s => Sp.ext2 (by simp [interS_lo]) (by simp [interS_hi])
 simp [bxI, h]
structure BdB (b : Bx) : Prop where
 a : -104 <= b.x.lo /\ b.x.lo <= 104 /\ -104 <= b.x.hi /\ b.x.hi <= 104
 b : -104 <= b.y.lo /\ b.y.lo <= 104 /\ -104 <= b.y.hi /\ b.y.hi <= 104
theorem bxI_wide {n : Bx} (h : BdB n) : bxI wideB n = n := by
 obtain ⟨x, y⟩ := n
 have h1 := h.a
 have h2 := h.b
 simp only at h1 h2
 have e1 : interS wideS x = x := interW (by omega) (by omega)
 have e2 : interS wideS y = y := interW (by omega) (by omega)
 show (⟨interS wideS x, interS wideS y⟩ : Bx) = _
 rw [e1, e2]
theorem bxI_bd {a b : Bx} (h : BdB a) (k : BdB b) : BdB (bxI a b) := by
 have h1 := h.a
 have h2 := h.b
 have k1 := k.a
 have k2 := k.b
 refine ⟨?_, ?_⟩ <;> simp only [bxI, interS_lo, interS_hi] <;> omega
theorem fold_bd : ∀ (l : List Bx) (x : Bx), (∀ y ∈ l, BdB y) -> BdB x -> BdB (l.foldl bxI x) := by
 intro l
 induction l with
 | nil => intro x _ h; exact h
 | cons y r ih => intro x hl h; exact ih _ (fun z hz => hl z (by simp [hz])) (bxI_bd h (hl y (by simp)))
theorem boxS_fold {l : List Bx} (hne : l ≠ []) (h : ∀ y ∈ l, BdB y) : (boxS l = if empB (l.foldl bxI wideB) then none else some (l.foldl bxI wideB)) /\ BdB (l.foldl bxI wideB) := by
 cases l with
 | nil => exact absurd rfl hne
 | cons n r =>
  have hn := h n (by simp)
  have e : (n :: r).foldl bxI wideB = r.foldl bxI n := by rw [List.foldl_cons, bxI_wide hn]
  have e2 : (n :: r).foldl bxI n = r.foldl bxI n := by rw [List.foldl_cons, bxI_same]
  rw [e]
  refine ⟨?_, fold_bd r n (fun z hz => h z (by simp [hz])) hn⟩
  show goB (n :: r) n = _
  rw [goB_fold _ _ (.inl (by simp)), e2]
theorem ok20 {p : Pt} : okPt 20 p = true ↔ (-20 <= p.x /\ p.x <= 20) /\ (-20 <= p.y /\ p.y <= 20) := by
 have e : w64 (-20) = -20 := rfl
 simp only [okPt, inB, e, Bool.and_eq_true, decide_eq_true_eq, ge_iff_le]
theorem nowB_bd {err : Int} {s p : Pt} (hs : okPt 20 s = true) (hp : okPt 80 p = true) (h0 : 0 <= err) (h4 : err <= 4) : BdB (nowB err s p) /\ nowB err s p = ⟨⟨p.x - s.x - err, p.x - s.x + err⟩, ⟨p.y - s.y - err, p.y - s.y + err⟩⟩ := by
 have a := ok20.1 hs
 have b := ok80.1 hp
 have e1 : w64 (p.x - s.x) = p.x - s.x := wrap_small (by omega) (by omega)
 have e2 : w64 (p.y - s.y) = p.y - s.y := wrap_small (by omega) (by omega)
 have e3 : w64 (p.x - s.x - err) = p.x - s.x - err := wrap_small (by omega) (by omega)
 have e4 : w64 (p.x - s.x + err) = p.x - s.x + err := wrap_small (by omega) (by omega)
 have e5 : w64 (p.y - s.y - err) = p.y - s.y - err := wrap_small (by omega) (by omega)
 have e6 : w64 (p.y - s.y + err) = p.y - s.y + err := wrap_small (by omega) (by omega)
 have e : nowB err s p = ⟨⟨p.x - s.x - err, p.x - s.x + err⟩, ⟨p.y - s.y - err, p.y - s.y + err⟩⟩ := by
  unfold nowB
  rw [e1, e2, e3, e4, e5, e6]
 refine ⟨?_, e⟩
 rw [e]
 constructor <;> simp only <;> omega
theorem ords_ext (n : Nat) : ∀ (d : Nat) (p : List Nat), ordsL n d p = ext n d p := by
 intro d
 induction d with
 | zero => intro p; rfl
 | succ d ih =>
  intro p
  simp only [ordsL, ext, kidsTo]
  rw [List.flatMap_map]
  induction List.range n with
  | nil => rfl
  | cons i r ihr =>
   rw [List.flatMap_cons, ihr, List.filter_cons]
   cases h : p.contains i with
   | true => simp
   | false => simp [ih]
theorem ords_lev (n : Nat) : ordsL n n [] = lev n n := by
 have := lev_ext n n 0
 rw [Nat.zero_add] at this
 rw [this, ords_ext]
 show _ = [[]].flatMap (ext n n)
 simp
def addU (out : List Bx) (x : Bx) : List Bx := if out.any (fun y => bxEq y x) then out else out ++ [x]
theorem bxEq_iff {a b : Bx} : bxEq a b = true ↔ a = b := by
 obtain ⟨⟨a1, a2⟩, ⟨a3, a4⟩⟩ := a
 obtain ⟨⟨b1, b2⟩, ⟨b3, b4⟩⟩ := b
 simp only [bxEq, Bool.and_eq_true, beq_iff_eq, Bx.mk.injEq, Sp.mk.injEq]
theorem any_mem {out : List Bx} {x : Bx} : out.any (fun y => bxEq y x) = true ↔ x ∈ out := by
 rw [List.any_eq_true]
 constructor
 ·rintro ⟨y, h1, h2⟩; rw [<- bxEq_iff.1 h2]; exact h1
 ·intro h; exact ⟨x, h, bxEq_iff.2 rfl⟩
theorem addU_mem {out : List Bx} {x y : Bx} : y ∈ addU out x ↔ y ∈ out \/ y = x := by
 unfold addU
 split
 ·rename_i h
  have := any_mem.1 h
  constructor
  ·exact .inl
  ·rintro (q | rfl)
   ·exact q
   ·exact this
 ·simp
theorem dd_mem {y : Bx} : ∀ {l out : List Bx}, y ∈ l.foldl addU out ↔ y ∈ out \/ y ∈ l := by
 intro l
 induction l with
 | nil => intro out; simp
 | cons x r ih =>
  intro out
  rw [List.foldl_cons, ih, addU_mem, List.mem_cons]
  simp only [or_assoc]
theorem dd_any (p : Bx -> Bool) (l : List Bx) : (l.foldl addU []).any p = l.any p := by
 rw [Bool.eq_iff_iff, List.any_eq_true, List.any_eq_true]
 simp only [dd_mem, List.not_mem_nil, false_or]
theorem fold_filterMap {α β : Type} (f : α -> Option β) (g : List β -> β -> List β) : ∀ (l : List α) (s : List β), l.foldl (fun s a => match f a with | none => s | some b => g s b) s = (l.filterMap f).foldl g s := by
 intro l
 induction l with
 | nil => intro s; rfl
 | cons a r ih =>
  intro s
  rw [List.foldl_cons, ih]
  cases h : f a <;> simp [h]
theorem refBx_fold (err : Int) (ss hs : List Pt) (t : Nat) (o : List Nat) (n : Nat) : refBx err ss hs t o n = ((List.range n).map (refNow err ss hs t o)).foldl bxI wideB := by
 unfold refBx
 rw [List.foldl_map]
section
variable {err : Int} {ss hs : List Pt} (h20 : ss.all (okPt 20) = true) (h80 : hs.all (okPt 80) = true) (h0 : 0 <= err) (h4 : err <= 4) (hn : 1 <= ss.length)
include h20 h80 h0 h4 hn
theorem getD_ok {f : Int} {l : List Pt} {i : Nat} (h : l.all (okPt f) = true) (hf : okPt f ⟨0, 0⟩ = true) : okPt f (l.getD i ⟨0, 0⟩) = true := by
 rw [List.getD]
 cases e : l[i]? with
 | none => exact hf
 | some p => exact List.all_eq_true.1 h p (List.mem_of_getElem? e)
theorem now_ref {t : Nat} (ht : t < 8) (o : List Nat) (i : Nat) : BdB (refNow err ss hs t o i) /\ refNow err ss hs t o i = nowB err (ss.getD i ⟨0, 0⟩) (turnP (t : Nat) (hs.getD (o.getD i 0) ⟨0, 0⟩)) := by
 have e : refNow err ss hs t o i = nowB err (ss.getD i ⟨0, 0⟩) (turnP (t : Nat) (hs.getD (o.getD i 0) ⟨0, 0⟩)) := by
  unfold refNow
  rw [turnP_R (by simp [inB]; omega)]
 refine ⟨?_, e⟩
 rw [e]
 have e1 : ∀ (f : Int) (l : List Pt) (i : Nat), l.all (okPt f) = true -> okPt f ⟨0, 0⟩ = true -> okPt f (l.getD i ⟨0, 0⟩) = true := by
  intro f l i h hf
  rw [List.getD]
  cases e : l[i]? with
  | none => exact hf
  | some p => exact List.all_eq_true.1 h p (List.mem_of_getElem? e)
 exact (nowB_bd (e1 20 ss i h20 (by decide)) (turn_ok ht (e1 80 hs _ h80 (by decide))) h0 h4).1
theorem boxOn_ref {t : Nat} (ht : t < 8) (o : List Nat) : boxOn err ss hs t o = (if empB (refBx err ss hs t o ss.length) then none else some (refBx err ss hs t o ss.length)) /\ BdB (refBx err ss hs t o ss.length) := by
 have e : ((List.range ss.length).map fun i => nowB err (ss.getD i ⟨0, 0⟩) (turnP (t : Nat) (hs.getD (o.getD i 0) ⟨0, 0⟩))) = (List.range ss.length).map (refNow err ss hs t o) :=
  List.map_congr_left fun i _ => (now_ref h20 h80 h0 h4 hn ht o i).2.symm
 unfold boxOn
 rw [refBx_fold, e]
 refine boxS_fold (fun h => ?_) (fun y hy => ?_)
 ·have := congrArg List.length h
  rw [List.length_map, List.length_range, List.length_nil] at this
  omega
 ·obtain ⟨i, _, rfl⟩ := List.mem_map.1 hy
  exact (now_ref h20 h80 h0 h4 hn ht o i).1
theorem boxT_bd {t : Nat} (ht : t < 8) : ∀ y ∈ boxT err ss hs t, BdB y /\ empB y = false := by
 intro y hy
 obtain ⟨o, _, ho⟩ := List.mem_filterMap.1 hy
 obtain ⟨h1, h2⟩ := boxOn_ref h20 h80 h0 h4 hn ht o
 rw [h1] at ho
 split at ho
 ·cases ho
 ·rename_i he
  cases ho
  exact ⟨h2, by simpa using he⟩
theorem boxL_bd : ∀ y ∈ boxL err ss hs, BdB y /\ empB y = false := by
 intro y hy
 obtain ⟨t, ht, h⟩ := List.mem_flatMap.1 hy
 exact boxT_bd h20 h80 h0 h4 hn (List.mem_range.1 ht) y h
theorem refTo_dd {t : Nat} (ht : t < 8) (out : List Bx) : refTo err ss hs t (lev ss.length ss.length) out = (boxT err ss hs t).foldl addU out := by
 unfold refTo boxT
 rw [<- fold_filterMap, ords_lev]
 congr 1
 funext out o
 rw [(boxOn_ref h20 h80 h0 h4 hn ht o).1]
 have e : addB out (refBx err ss hs t o ss.length) = if empB (refBx err ss hs t o ss.length) || out.any (fun y => bxEq y (refBx err ss hs t o ss.length)) then out else out ++ [refBx err ss hs t o ss.length] := rfl
 rw [e]
 cases empB (refBx err ss hs t o ss.length) <;> simp [addU]
theorem refBoxes_dd : refBoxes err ss hs 8 = (boxL err ss hs).foldl addU [] := by
 have : ∀ k, k <= 8 -> refBoxes err ss hs k = ((List.range k).flatMap (boxT err ss hs)).foldl addU [] := by
  intro k
  induction k with
  | zero => intro _; rfl
  | succ k ih =>
   intro hk
   rw [refBoxes_succ, ih (by omega), refTo_dd h20 h80 h0 h4 hn (by omega), List.range_succ, List.flatMap_append, List.foldl_append]
   simp
 exact this 8 (Nat.le_refl _)
end
theorem suit_pts {ss hs : List Pt} {cx cy wx wy : Sp} {rs : List Rdg} {err : Int} (h : suitB (machB ss cx cy wx wy rs) ss hs err = true) : ss.all (okPt 20) = true /\ hs.all (okPt 80) = true /\ 0 <= err /\ err <= 4 /\ 1 <= ss.length := by
 obtain ⟨h1, h2, h3, h4, h5, h6⟩ := suit_small h
 unfold machB at h1
 simp only [Bool.and_eq_true, decide_eq_true_eq] at h1
 have h7 : allB ss 2 20 = true := by simp only [h1]
 unfold butB at h2
 simp only [Bool.and_eq_true, inB, decide_eq_true_eq] at h2
 have h8 := h2.1
 rw [allB_P] at h7 h8
 simp only [pointsB, Bool.and_eq_true] at h7 h8
 exact ⟨h7.1, h8.1, by omega, by omega, by omega⟩
structure HeldOk (m : Held) : Prop where
 b : 0 <= m.b /\ m.b <= 12
 x : -104 <= m.x.lo /\ m.x.lo <= 104 /\ -104 <= m.x.hi /\ m.x.hi <= 104
 y : -104 <= m.y.lo /\ m.y.lo <= 104 /\ -104 <= m.y.hi /\ m.y.hi <= 104
theorem held_box {n : Nat} {y : Bx} (hn : n <= 12) (h : BdB y) : HeldOk ⟨n, y.x, y.y⟩ := ⟨by simp only; omega, h.a, h.b⟩
section
variable {st : List Pt} {cx cy wx wy : Sp} {rs : List Rdg} (h : machB st cx cy wx wy rs = true) {ms : List Held} (hm : ∀ m ∈ ms, HeldOk m)
include h hm
theorem good_xh : Good cx wx (ax0 cx wx rs ms).limits := by
 obtain ⟨a, b, c, d, e, f, g⟩ := good_x h
 refine ⟨a, b, c, d, e, f, fun m h' => ?_⟩
 rcases List.mem_append.1 h' with q | q
 ·exact g m q
 ·obtain ⟨k, hk, rfl⟩ := List.mem_map.1 q
  exact (hm k hk).x
theorem good_yh : Good cy wy (ax1 cy wy rs ms).limits := by
 obtain ⟨a, b, c, d, e, f, g⟩ := good_y h
 refine ⟨a, b, c, d, e, f, fun m h' => ?_⟩
 rcases List.mem_append.1 h' with q | q
 ·exact g m q
 ·obtain ⟨k, hk, rfl⟩ := List.mem_map.1 q
  exact (hm k hk).y
end
end Go.AM
namespace Go.AM
open Go Go.Proofs
variable [Keep]
attribute [local irreducible] W WO WO1 WD WQ WT thenQ blockQ endR isRet retK Cl ClR
attribute [local irreducible] isNew roundQ RdR clR boundsS machB boxL suitB
theorem eqG169 : Tryz.prog.eqGuardType Tryz.prog.depth 169 = false := by kernel_rfl
theorem eqH169 : Tryz.prog.stoodInHeld 48 = false := by kernel_rfl
theorem eqA169 (a b c d a' b' c' d' : Int) : binV Tryz.prog .eql 169 false (.agg [.int .i64 a, .int .i64 b, .int .i64 c, .int .i64 d]) (.agg [.int .i64 a', .int .i64 b', .int .i64 c', .int .i64 d']) = some (.bool ((a == a' && b == b') && (c == c' && d == d'))) := by
 simp only [binV, eqOp, eqV, eqG169, Bool.false_eq_true, if_false, eqDepth, eqT, Tryz.underlying169, ty_lay48, show List.range 2 = [0, 1] from rfl, eqElems, Tryz.underlying48, eqH169, eqFields]
 simp [eqFields, readT, ty_lay3, ty_lay48, readAt, Tryz.underlying3]
 cases h1 : (a == a') <;> cases h2 : (b == b') <;> cases h3 : (c == c') <;> cases h4 : (d == d') <;> simp_all
theorem bx_idx {a : AV} {l : List Bx} (h : slV bxC a = some l) {k : Nat} {p : Bx} (hp : l[k]? = some p) (H : Heap) : indexAddrV Tryz.prog H 165 a (.int .i64 ↑k) = some (.vptr [.int .i64 p.x.lo, .int .i64 p.x.hi, .int .i64 p.y.lo, .int .i64 p.y.hi]) :=
 (slV_is h).1.idx (x := bxC.enc p) Tryz.underlying165 ty_lay169 (by simp [hp]) rfl
def sp165 : List AV -> Option AV
 | [a, .agg [.int .i64 xl, .int .i64 xh, .int .i64 yl, .int .i64 yh]] => (slV bxC a).map fun l => .int .i64 (idxOf (fun p => bxEq ⟨⟨xl, xh⟩, ⟨yl, yh⟩⟩ p) l)
 | _ => none
theorem p165 : ∀ args v, sp165 args = some v -> v.flat = true := by
 intro args v h
 unfold sp165 at h
 split at h
 ·simp only [Option.map_eq_some_iff] at h; obtain ⟨l, _, rfl⟩ := h; rfl
 ·cases h
set_option maxHeartbeats 1000000 in
theorem F165 : IntrFn Tryz.prog 165 (flatFn sp165) := by
 refine flat_fn (X := dX i0) i0_sound p165 ?_
 intro args v h
 unfold sp165 at h
 split at h
 ·rename_i a xl xh yl yh
  simp only [Option.map_eq_some_iff] at h
  obtain ⟨l, ha, rfl⟩ := h
  have hlen := sl_len ha
  have hout := sl_out ha
  have hmax := sl_max ha
  refine ClR.walk (c := _) rfl Tryz.func165 rfl (by kernel_rfl) rfl isRet_fail ?_
  simp only [entryEnv, Nat.reduceAdd, emptyHp]
  repeat' (first | refine goS ?_ | refine go2 (fun hh => ?_) (fun hh => ?_) | fail)
  refine W.loopN l.length (fun k F => ∃ e lm, F = Fr.mk 165 false e lm ⟨0, .nil⟩ [] none /\ (l.take k).all (fun p => !bxEq ⟨⟨xl, xh⟩, ⟨yl, yh⟩⟩ p) = true /\ lm.get 3 = some (0, [.int .i64 xl, .int .i64 xh, .int .i64 yl, .int .i64 yh]) /\ e.get 0 = some a /\ e.get 3 = some (.lptr 3 0 0) /\ e.get 7 = some (.int .i64 ↑l.length) /\ e.get 8 = some (.int .i64 ↑k) /\ k <= l.length) ?_ ?_
  ·refine ⟨_, _, rfl, ?_, ?_, ?_, ?_, ?_, ?_, ?_⟩ <;> first | exact Z2 | simp [go_sem, *]
  rintro k F ⟨e, lm, rfl, hall, m3, h0, h3, h7, h8, hk⟩
  have HA := Lib.hid hall
  clear hall
  by_cases hlt : k < l.length
  ·obtain ⟨p, hp⟩ := get_some hlt
   have hix := bx_idx ha hp
   have hd : decide ((k : Int) < (l.length : Int)) = true := by simpa using hlt
   have hw := wrap_succ hlt hmax
   have hnx := take_next hp
   have he := eqA169 xl xh yl yh p.x.lo p.x.hi p.y.lo p.y.hi
   have hpe : ((xl == p.x.lo && xh == p.x.hi) && (yl == p.y.lo && yh == p.y.hi)) = bxEq ⟨⟨xl, xh⟩, ⟨yl, yh⟩⟩ p := rfl
   rw [hpe] at he
   clear hpe
   cases hvp : bxEq ⟨⟨xl, xh⟩, ⟨yl, yh⟩⟩ p with
   | true =>
    have HI := Lib.hid (idxOf_at (pb := fun p => bxEq ⟨⟨xl, xh⟩, ⟨yl, yh⟩⟩ p) HA.out hp hvp)
    rw [hvp] at he
    clear ha hp hnx hvp
    repeat' (first | (apply W.drawQ (id := 4) (l1 := [0, 1, 2, 3, 4, 5]) (l2 := []); kernel_rfl; kernel_rfl; kernel_rfl; exact Z4) | refine go1 ?_ | refine go2 (fun hh => ?_) (fun hh => ?_) | fail)
    all_goals (simp only [resV_def (X := dX i0) Tryz.func165, Tryz.results165]; first | exact J5 | refine J6 ?_)
    rw [HI.out]
   | false =>
    rw [hvp] at he
    have HN := Lib.hid hnx
    have HV := Lib.hid hvp
    clear ha hp hnx hvp
    repeat' (first | (apply W.drawQ (id := 4) (l1 := [0, 1, 2, 3, 4, 5]) (l2 := []); kernel_rfl; kernel_rfl; kernel_rfl; exact Z4) | refine go1 ?_ | refine go2 (fun hh => ?_) (fun hh => ?_) | fail)
    refine ⟨hlt, _, _, rfl, ?_, ?_, ?_, ?_, ?_, ?_, by omega⟩
    ·have := HA.out
     rw [HN.out]
     simp [this, HV.out]
    all_goals exact Z2
  ·have hd : decide ((k : Int) < (l.length : Int)) = false := by simpa using hlt
   have hkl : k = l.length := by omega
   have h2 := HA.out
   rw [hkl, List.take_length] at h2
   have HI := Lib.hid (idxOf_none h2)
   clear ha h2 hkl
   repeat' (first | refine goS ?_ | refine go2 (fun hh => ?_) (fun hh => ?_) | fail)
   all_goals (simp only [resV_def (X := dX i0) Tryz.func165, Tryz.results165]; first | exact J5 | refine J6 ?_)
   rw [HI.out]
 ·cases h
def sp114 : List AV -> Option AV
 | [a, .agg [.int .i64 xl, .int .i64 xh, .int .i64 yl, .int .i64 yh]] => (slV bxC a).map fun l => .bool (l.any fun p => bxEq ⟨⟨xl, xh⟩, ⟨yl, yh⟩⟩ p)
 | _ => none
theorem p114 : ∀ args v, sp114 args = some v -> v.flat = true := by
 intro args v h
 unfold sp114 at h
 split at h
 ·simp only [Option.map_eq_some_iff] at h; obtain ⟨l, _, rfl⟩ := h; rfl
 ·cases h
noncomputable def cJA : Itr
 | 165 => some (flatFn sp165)
 | _ => none
theorem cJA_sound : Sound (dX cJA) := dX_sound (fun f g h => by
 unfold cJA at h
 split at h
 ·cases h; exact F165
 ·cases h)
theorem F114 : IntrFn Tryz.prog 114 (flatFn sp114) := by
 refine flat_fn (X := dX cJA) cJA_sound p114 ?_
 intro args v h
 unfold sp114 at h
 split at h
 ·rename_i a xl xh yl yh
  simp only [Option.map_eq_some_iff] at h
  obtain ⟨l, hl, rfl⟩ := h
  have hout := sl_out hl
  have hb := idxOf_any (fun p => bxEq ⟨⟨xl, xh⟩, ⟨yl, yh⟩⟩ p) l
  rw [<- hb]
  have k165 : ∀ h, Cl (dX cJA) 165 [a, .agg [.int .i64 xl, .int .i64 xh, .int .i64 yl, .int .i64 yh]] h (.ret (.int .i64 (idxOf (fun p => bxEq ⟨⟨xl, xh⟩, ⟨yl, yh⟩⟩ p) l)) h none) := fun h => Cl.intr (g := flatFn sp165) rfl (by
   have e : viewV h (.agg [.int .i64 xl, .int .i64 xh, .int .i64 yl, .int .i64 yh]) = some (.agg [.int .i64 xl, .int .i64 xh, .int .i64 yl, .int .i64 yh]) := view_pur rfl
   simp [flatFn, viewVs, view_pur (sl_pur hl), e, sp165, hl])
  generalize idxOf (fun p => bxEq ⟨⟨xl, xh⟩, ⟨yl, yh⟩⟩ p) l = n at *
  clear hl hb
  refine ClR.walk (c := _) rfl Tryz.func114 rfl (by kernel_rfl) rfl isRet_fail ?_
  simp only [entryEnv, Nat.reduceAdd, emptyHp]
  repeat' (first | refine goS ?_ | (apply U6; exact Z1; exact Z1; (focus (simp only [List.nil_append, List.append_nil]; first | exact k165 _)); simp only [pM, pN, rR, rP]) | refine go2 (fun hh => ?_) (fun hh => ?_) | fail)
  all_goals (simp only [resV_def (X := dX cJA) Tryz.func114, Tryz.results114]; first | exact J5 | refine J6 ?_)
 ·cases h
theorem K114 {X : Ctx} (hX : X.intr 114 = some (flatFn sp114)) (a : AV) (l : List Bx) (y : Bx) (h : Heap) (b : Blt h a 4 (l.map bxC.enc)) (hm : l.length <= maxL) : Cl X 114 [a, .agg [.int .i64 y.x.lo, .int .i64 y.x.hi, .int .i64 y.y.lo, .int .i64 y.y.hi]] h (.ret (.bool (l.any fun p => bxEq y p)) h none) :=
 Cl.intr hX (by
  have e1 := b.seen (enc_pur bxC l)
  have e2 : slV bxC (slN (l.map bxC.enc)) = some l := slV_slN hm
  have e3 : viewV h (.agg [.int .i64 y.x.lo, .int .i64 y.x.hi, .int .i64 y.y.lo, .int .i64 y.y.hi]) = some (.agg [.int .i64 y.x.lo, .int .i64 y.x.hi, .int .i64 y.y.lo, .int .i64 y.y.hi]) := view_pur rfl
  simp [flatFn, viewVs, e1, e3, sp114, e2])
structure BA where
 ha : AV
 err : Int
 ps : ha.pur = true
def butC : Cd BA where
 enc m := .agg [m.ha, .int .i64 m.err]
 dec a := match a with
  | .agg [ha, .int .i64 e] => if p : ha.pur = true then some ⟨ha, e, p⟩ else none
  | _ => none
 de m := by simp [m.ps]
 ed a x h := by
  split at h
  ·split at h
   ·cases h; rfl
   ·cases h
  ·cases h
 pur m := by simp [AV.pur, AV.purL, m.ps]
def BA.holes (m : BA) : List Pt := (slV ptC m.ha).getD []
def BA.ok (m : BA) : Bool := (slV ptC m.ha).isSome
theorem BA.ok_is {m : BA} (h : m.ok = true) : slV ptC m.ha = some m.holes := by
 unfold BA.ok at h
 simp only [Option.isSome_iff_exists] at h
 obtain ⟨a, ha⟩ := h
 simp [BA.holes, ha]
theorem BA.cells {m : BA} (h : m.ok = true) : m.ha.cells = [m.ha] := (slV_is (BA.ok_is h)).1.cells
theorem but_idx {a : AV} {l : List BA} (h : slV butC a = some l) {k : Nat} {m : BA} (hp : l[k]? = some m) (hc : m.ha.cells.length = 1) (H : Heap) : indexAddrV Tryz.prog H 70 a (.int .i64 ↑k) = some (.vptr [m.ha, .int .i64 m.err]) :=
 (slV_is h).1.idx (x := butC.enc m) Tryz.underlying70 ty_lay77 (by simp [hp]) rfl
set_option maxHeartbeats 400000 in
theorem C161 (c : Itr) (hc : c 161 = none) (a : AV) (l : List BA) (ha : slV butC a = some l) (hok : l.all BA.ok = true) (g : FuncId) (first capt : List AV) (pb : BA -> Bool) (h : Heap)
    (hcall : ∀ p : BA, p ∈ l -> Cl (dX c) g ((first ++ [butC.enc p]) ++ capt) h (.ret (.bool (pb p)) h none)) : Cl (dX c) 161 [a, .func (.func g) first capt] h (.ret (.int .i64 (idxOf pb l)) h none) := by
  refine ClR.cl ?_
  have hlen := sl_len ha
  have hout := sl_out ha
  have hmax := sl_max ha
  refine ClR.walk (c := _) hc Tryz.func161 rfl (by kernel_rfl) rfl (fun e => by cases e) ?_
  simp only [entryEnv, Nat.reduceAdd]
  repeat' (first | refine goS ?_ | refine go2 (fun hh => ?_) (fun hh => ?_) | fail)
  refine W.loopN l.length (fun k F => ∃ e, F = Fr.mk 161 false e .nil h [] none /\ (l.take k).all (fun x => !pb x) = true /\ e.get 0 = some a /\ e.get 1 = some (.func (.func g) first capt) /\ e.get 7 = some (.int .i64 ↑l.length) /\ e.get 8 = some (.int .i64 ↑k) /\ k <= l.length) ?_ ?_
  · refine ⟨_, rfl, ?_, ?_, ?_, ?_, ?_, ?_⟩ <;> simp [go_sem, *]
  rintro k F ⟨e, rfl, hall, h0, h1, h7, h8, hk⟩
  have HA := Lib.hid hall
  clear hall
  by_cases hlt : k < l.length
  · obtain ⟨p, hp⟩ := get_some hlt
    have hpo := List.all_eq_true.1 hok p (List.mem_of_getElem? hp)
    have c1 := BA.cells hpo
    have hix := but_idx ha hp (by rw [c1]; rfl)
    have q1 := BA.ok_is hpo
    have o1 := sl_out q1
    obtain ⟨n1, t1⟩ := sl_one q1
    have hcl := hcall p (List.mem_of_getElem? hp)
    have hd : decide ((k : Int) < (l.length : Int)) = true := by simpa using hlt
    have hw := wrap_succ hlt hmax
    have hnx := take_next hp
    have HI : pb p = true -> idxOf pb l = k := idxOf_at HA.out hp
    have HH := Lib.hid HI
    clear ha hcall hp HI hok hpo q1
    simp only [butC] at hcl
    simp only [AV.cells] at c1
    repeat' (first | (apply U6; exact Z1; exact Z1; (focus (exact hcl)); simp only [pM, pN, rR, rP]) | refine go1 ?_ | refine go2 (fun hh => ?_) (fun hh => ?_) | fail)
    all_goals first
      | (refine ⟨hlt, _, rfl, ?_, ?_, ?_, ?_, ?_, by omega⟩
         · have := HA.out
           rw [hnx]; simp_all
         all_goals exact Z2)
      | ((simp only [resV_def (X := dX c) Tryz.func161, Tryz.results161]; first | exact J5 | refine J6 ?_)
         have := HH.out hh
         simp [isR, frzRes, dX_frz, dFrz, this])
  · have hd : decide ((k : Int) < (l.length : Int)) = false := by simpa using hlt
    have hkl : k = l.length := by omega
    have h2 := HA.out
    rw [hkl, List.take_length] at h2
    have HI := Lib.hid (idxOf_none h2)
    clear ha hcall h2 hkl hok
    repeat' (first | refine goS ?_ | refine go2 (fun hh => ?_) (fun hh => ?_) | fail)
    all_goals (simp only [resV_def (X := dX c) Tryz.func161, Tryz.results161]; first | exact J5 | refine J6 ?_)
    have := HI.out
    simp [isR, frzRes, dX_frz, dFrz, this]
theorem C110 (c : Itr) (hc : c 161 = none) (hc2 : c 110 = none) (a : AV) (l : List BA) (ha : slV butC a = some l) (hok : l.all BA.ok = true) (g : FuncId) (first capt : List AV) (pb : BA -> Bool) (h : Heap)
  (hcall : ∀ p : BA, p ∈ l -> Cl (dX c) g ((first ++ [butC.enc p]) ++ capt) h (.ret (.bool (pb p)) h none)) : Cl (dX c) 110 [a, .func (.func g) first capt] h (.ret (.bool (l.any pb)) h none) := by
 refine ClR.cl ?_
 have hcl := C161 c hc a l ha hok g first capt pb h hcall
 have hout := sl_out ha
 have hb := idxOf_any pb l
 clear ha hcall hok
 refine ClR.walk (c := _) hc2 Tryz.func110 rfl (by kernel_rfl) rfl (fun e => by cases e) ?_
 simp only [entryEnv, Nat.reduceAdd]
 repeat' (first | (apply U6; exact Z1; exact Z1; (focus (exact hcl)); simp only [pM, pN, rR, rP]) | refine go1 ?_ | refine go2 (fun hh => ?_) (fun hh => ?_) | fail)
 all_goals (simp only [resV_def (X := dX c) Tryz.func110, Tryz.results110]; first | exact J5 | refine J6 ?_)
 simp [isR, frzRes, dX_frz, dFrz, hb]
set_option maxHeartbeats 1000000 in
theorem C111 (c : Itr) (hc : c 111 = none) (hc2 : c 112 = some (pureFn sp112)) (b : Nat) (m : BA) (hok : m.ok = true) (sa ra : AV) (st : List Pt) (rs : List Rdg) (cx cy wx wy : Sp) (hl : slV ptC sa = some st) (hr : slV rdgC ra = some rs) (h : Heap) (hb : h.get b = some (.var [sa, .int .i64 cx.lo, .int .i64 cx.hi, .int .i64 cy.lo, .int .i64 cy.hi, .int .i64 wx.lo, .int .i64 wx.hi, .int .i64 wy.lo, .int .i64 wy.hi, ra])) :
  Cl (dX c) 111 (([] ++ [butC.enc m]) ++ [.ptr b 0]) h (.ret (.bool (!suitB (machB st cx cy wx wy rs) st m.holes m.err)) h none) := by
 refine ClR.cl ?_
 have c1 := BA.cells hok
 have q1 := BA.ok_is hok
 have o1 := sl_out q1
 have o2 := sl_out hl
 have o3 := sl_out hr
 obtain ⟨n1, t1⟩ := sl_one q1
 obtain ⟨n2, t2⟩ := sl_one hl
 obtain ⟨n3, t3⟩ := sl_one hr
 have k112 := fun hp => K112 (X := dX c) hc2 sa ra m.ha st m.holes rs cx cy wx wy m.err hl hr q1 hp
 generalize suitB (machB st cx cy wx wy rs) st m.holes m.err = su at *
 obtain ⟨hn, hm⟩ := h
 simp only [hp_get] at hb
 simp only [AV.cells] at c1
 simp only [butC, List.nil_append, List.cons_append]
 clear hl hr q1 hok
 refine ClR.walk (c := _) hc Tryz.func111 rfl (by kernel_rfl) rfl (fun e => by cases e) ?_
 simp only [entryEnv, Nat.reduceAdd]
 repeat' (first | refine goS ?_ | (apply U6; exact Z1; exact Z1; (focus (simp only [List.nil_append, List.append_nil]; first | exact k112 _)); simp only [pM, pN, rR, rP]) | refine go2 (fun hh => ?_) (fun hh => ?_) | fail)
 all_goals (simp only [resV_def (X := dX c) Tryz.func111, Tryz.results111]; first | exact J5 | refine J6 ?_)
 all_goals simp [isR, frzRes, dX_frz, dFrz]
end Go.AM
namespace Go.AM
open Go
variable [Keep]
def hullS (a s : Sp) : Sp := ⟨minV a.lo s.lo, maxV a.hi s.hi⟩
def hullB (a s : Bx) : Bx := ⟨hullS a.x s.x, hullS a.y s.y⟩
def prvStep (f : Bx -> Option Bx) (acc : Option Bx) (y : Bx) : Option Bx := match f y with
 | none => acc
 | some s => match acc with
  | none => some s
  | some a => some (hullB a s)
def prvL (f : Bx -> Option Bx) (l : List Bx) : Option Bx := l.foldl (prvStep f) none
end Go.AM
namespace Go.AM
open Go
variable [Keep]
def inS (n : Int) (s : Sp) : Prop := s.lo <= n /\ n <= s.hi
theorem inS_inter {n : Int} {a b : Sp} (h1 : inS n a) (h2 : inS n b) : inS n (interS a b) := by
 unfold inS at *
 simp only [interS_lo, interS_hi]
 omega
theorem allS_in (n b : Int) : ∀ (L : List Lim) (s : Sp), (∀ m ∈ L, m.b = b -> inS n m.sp) -> inS n s -> inS n (allS b L s) := by
 intro L
 induction L with
 | nil => intro s _ h; exact h
 | cons m r ih =>
  intro s hL h
  simp only [allS]
  split
  ·rename_i hb
   exact ih _ (fun m' h' => hL m' (by simp [h'])) (inS_inter h (hL m (by simp) (by simpa using hb)))
  ·exact ih _ (fun m' h' => hL m' (by simp [h'])) h
theorem lim_at {ax : Ax} {l : List Int} (hf : fitsA ax l = true) {k : Nat} : ∀ m ∈ ax.limits, m.b = (k : Int) -> inS (l.getD k 0) m.sp := by
 intro m hm hb
 simp only [fitsA, Bool.and_eq_true] at hf
 have := List.all_eq_true.1 hf.2.2 m hm
 simp only [inL, inB, Bool.and_eq_true, decide_eq_true_eq, hb, Int.toNat_natCast] at this
 exact ⟨this.1, this.2⟩
theorem step_at {ax : Ax} {l : List Int} (hf : fitsA ax l = true) (hs : l.all okN = true) {k : Nat} (hk : k < 12) : ax.wear.lo <= l.getD (k + 1) 0 - l.getD k 0 /\ l.getD (k + 1) 0 - l.getD k 0 <= ax.wear.hi := by
 simp only [fitsA, Bool.and_eq_true] at hf
 have := List.all_eq_true.1 hf.2.1 k (by simpa using hk)
 have a := num_small hs k
 have b := num_small hs (k + 1)
 have e : w64 (l.getD (k + 1) 0 - l.getD k 0) = l.getD (k + 1) 0 - l.getD k 0 := wrap_small (by omega) (by omega)
 simp only [stepB, inB, e, Bool.and_eq_true, decide_eq_true_eq] at this
 exact ⟨this.1, this.2⟩
theorem on_in {c w : Sp} {L : List Lim} (g : Good c w L) {l : List Int} (hf : fitsA ⟨c, w, L⟩ l = true) (hs : l.all okN = true) : ∀ k : Nat, k <= 12 -> inS (l.getD k 0) (onS ⟨c, w, L⟩ k) := by
 intro k
 induction k with
 | zero =>
  intro _
  refine allS_in _ _ _ _ (lim_at hf (k := 0)) ?_
  have hf' := hf
  simp only [fitsA, inB, Bool.and_eq_true, decide_eq_true_eq] at hf'
  exact ⟨hf'.1.1, hf'.1.2⟩
 | succ k ih =>
  intro hk
  have h := ih (by omega)
  refine allS_in _ _ _ _ (lim_at hf (k := k + 1)) ?_
  obtain ⟨e1, e2⟩ := nxt_small g (by omega) (by omega) (on_bd g k (by omega))
  have hst := step_at hf hs (show k < 12 by omega)
  simp only [] at hst
  unfold inS at *
  rw [e1, e2]
  omega
def Amid (l : List Int) (out : List Sp) : Prop := out.length = 13 /\ ∀ j : Nat, j <= 12 -> inS (l.getD j 0) (out.getD j ⟨0, 0⟩) /\ -1000 <= (out.getD j ⟨0, 0⟩).lo /\ (out.getD j ⟨0, 0⟩).hi <= 1000
theorem back_in {c w : Sp} {L : List Lim} (g : Good c w L) {l : List Int} (hf : fitsA ⟨c, w, L⟩ l = true) (hs : l.all okN = true) : ∀ (n : Nat) (out : List Sp), n <= 12 -> Amid l out -> Amid l (backS ⟨c, w, L⟩ n out) := by
 intro n
 induction n with
 | zero => intro out _ h; exact h
 | succ n ih =>
  intro out hn h
  simp only [backS]
  refine ih _ (by omega) ⟨by simp [h.1], fun j hj => ?_⟩
  have w1 := g.w1
  have w2 := g.w2
  have w3 := g.w3
  have hm := h.2 (n + 1) (by omega)
  have hn1 := num_small hs (n + 1)
  have hst := step_at hf hs (show n < 12 by omega)
  simp only [] at hst
  by_cases hnj : n = j
  ·subst hnj
   rw [getD_set_same (by rw [h.1]; omega)]
   have h0 := h.2 n (by omega)
   generalize out.getD (n + 1) ⟨0, 0⟩ = s at *
   generalize out.getD n ⟨0, 0⟩ = t at *
   have hm1 := hm.1
   have h01 := h0.1
   unfold inS at *
   have e1 : (prvS ⟨c, w, L⟩ s).lo = s.lo - w.hi := wrap_small (show -4611686018427387904 <= s.lo - w.hi by omega) (show s.lo - w.hi <= 4611686018427387904 by omega)
   have e2 : (prvS ⟨c, w, L⟩ s).hi = s.hi - w.lo := wrap_small (show -4611686018427387904 <= s.hi - w.lo by omega) (show s.hi - w.lo <= 4611686018427387904 by omega)
   simp only [interS_lo, interS_hi, e1, e2]
   omega
  ·rw [getD_set_ne hnj]
   exact h.2 j hj
theorem on_list (ax : Ax) {k : Nat} (hk : k < 13) : ((List.range 13).map (onS ax)).getD k ⟨0, 0⟩ = onS ax k := by
 simp [List.getD, hk]
theorem bounds_good {c w : Sp} {L : List Lim} (g : Good c w L) : boundsS ⟨c, w, L⟩ = refS ⟨c, w, L⟩ := by
 have hc1 := g.c1
 have hc2 := g.c2
 have hc3 := g.c3
 have hw2 := g.w2
 have hw1 := g.w1
 have hw3 := g.w3
 refine bounds_ref ⟨c, w, L⟩ (by simp [empS]; omega) (fun k hk he => by
  obtain ⟨e1, e2⟩ := nxt_small g (by omega) (by omega) (on_bd g k (by omega))
  simp only [empS, decide_eq_false_iff_not] at *
  rw [e1, e2]
  omega)
theorem fits_within {c w : Sp} {L : List Lim} (g : Good c w L) {l : List Int} (hf : fitsA ⟨c, w, L⟩ l = true) (hs : l.all okN = true) : ∃ t, boundsS ⟨c, w, L⟩ = some t /\ t.length = 13 /\ ∀ j : Nat, j <= 12 -> inS (l.getD j 0) (t.getD j ⟨0, 0⟩) := by
 have hM : Amid l (backS ⟨c, w, L⟩ 12 ((List.range 13).map (onS ⟨c, w, L⟩))) := by
  refine back_in g hf hs 12 _ (by omega) ⟨by simp, fun j hj => ?_⟩
  rw [on_list _ (by omega)]
  have := on_bd g j (by omega)
  exact ⟨on_in g hf hs j hj, by omega, by omega⟩
 rw [bounds_good g]
 unfold refS
 have hne : (backS ⟨c, w, L⟩ 12 ((List.range 13).map (onS ⟨c, w, L⟩))).any empS = false := by
  rw [List.any_eq_false]
  intro x hx
  obtain ⟨j, hj⟩ := List.mem_iff_getElem?.1 hx
  have hjl : j < 13 := by
   rcases Nat.lt_or_ge j 13 with h | h
   ·exact h
   ·rw [List.getElem?_eq_none (by rw [hM.1]; exact h)] at hj; cases hj
  have hg : (backS ⟨c, w, L⟩ 12 ((List.range 13).map (onS ⟨c, w, L⟩))).getD j ⟨0, 0⟩ = x := by simp [List.getD, hj]
  have := (hM.2 j (by omega)).1
  rw [hg] at this
  unfold inS at this
  simp only [empS, decide_eq_true_eq]
  omega
 rw [hne]
 exact ⟨_, rfl, hM.1, fun j hj => (hM.2 j hj).1⟩
end Go.AM
namespace Go.AM
open Go
variable [Keep]
attribute [local irreducible] boundsS
theorem ord_mem {n : Nat} {o : List Nat} (h : IsOrd n o) : o ∈ ordsL n n [] := by
 rw [ords_lev]
 cases hf : (lev n n).find? (fun s => s == o) with
 | none =>
  rw [lev_srch] at hf
  have := srch_none n [] hf (by simp) o (by simpa using h)
  simp at this
 | some s =>
  have h1 := List.find?_some hf
  have h2 := List.mem_of_find?_eq_some hf
  simp only [beq_iff_eq] at h1
  rw [<- h1]; exact h2
def inBx (a b : Int) (y : Bx) : Prop := inS a y.x /\ inS b y.y
theorem inBx_ne {a b : Int} {y : Bx} (h : inBx a b y) : empB y = false := by
 unfold inBx inS at h
 simp only [empB, empS, Bool.or_eq_false_iff, decide_eq_false_iff_not]
 omega
theorem fold_in {a b : Int} : ∀ (l : List Bx) (x : Bx), (∀ y ∈ l, inBx a b y) -> inBx a b x -> inBx a b (l.foldl bxI x) := by
 intro l
 induction l with
 | nil => intro x _ h; exact h
 | cons y r ih => intro x hl h; exact ih _ (fun z hz => hl z (by simp [hz])) ⟨inS_inter h.1 (hl y (by simp)).1, inS_inter h.2 (hl y (by simp)).2⟩
theorem inL_in {l : List Int} {n : Nat} {s : Sp} (h : inS (l.getD n 0) s) : inL l ⟨n, s.lo, s.hi⟩ = true := by
 unfold inS at h
 simp only [inL, inB, Int.toNat_natCast, Bool.and_eq_true, decide_eq_true_eq]
 omega
section
variable {ss : List Pt} {cx cy wx wy : Sp} {rs : List Rdg} {xs ys : List Int} (h : machB ss cx cy wx wy rs = true) (ht : truthB xs ys = true) (hf : fitsM cx cy wx wy rs xs ys = true)
include h ht hf
end
end Go.AM
