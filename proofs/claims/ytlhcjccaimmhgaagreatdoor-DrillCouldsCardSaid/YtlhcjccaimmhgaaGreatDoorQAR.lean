/-
  Texts of the proof: an evaluator of the program's code, its soundness, contracts of functions.
-/
import Derived.Test.YtlhcjccaimmhgaaGreatDoorQAQ
import Derived.Test.YtlhcjccaimmhgaaGreatDoorQAP
import Derived.Test.YtlhcjccaimmhgaaGreatDoorQAK
set_option linter.unusedSectionVars false
set_option linter.unusedVariables false
set_option linter.unusedSimpArgs false
set_option maxRecDepth 100000
namespace Go.AM
open Go Go.Proofs
variable [Keep]
attribute [local irreducible] W WO WO1 WD WQ WT thenQ blockQ endR isRet retK Cl ClR
attribute [local irreducible] isNew roundQ RdR clR boundsS machB boxL suitB
theorem eqG181 : Tryz.prog.eqGuardType Tryz.prog.depth 181 = false := by kernel_rfl
theorem eqH181 : Tryz.prog.stoodInHeld 181 = false := by kernel_rfl
theorem eq181 (a b c d e a' b' c' d' e' : Int) : binV Tryz.prog .eql 181 false (.agg [.int .i64 a, .int .i64 b, .int .i64 c, .int .i64 d, .int .i64 e]) (.agg [.int .i64 a', .int .i64 b', .int .i64 c', .int .i64 d', .int .i64 e']) = some (.bool (a == a' && (b == b' && c == c') && (d == d' && e == e'))) := by
  simp only [binV, eqOp, eqV, eqG181, Bool.false_eq_true, if_false, eqDepth, eqT, Tryz.underlying181, eqH181, eqFields, Tryz.underlying48, eqh48]
  simp [eqFields, readT, ty_lay3, ty_lay48, readAt, Tryz.underlying3, Tryz.underlying48, eqT]
  cases h1 : (a == a') <;> cases h2 : (b == b') <;> cases h3 : (c == c') <;> cases h4 : (d == d') <;> cases h5 : (e == e') <;> simp_all
def sp120 : List AV → Option AV
  | [la, .agg [.int .i64 _, .int .i64 xl, .int .i64 xh, .int .i64 yl, .int .i64 yh], .int .i64 n] => match slV heldC la with
    | some ms => if decide (ms.length ≤ 1000) = true then some (slN ((ms ++ [Held.mk n ⟨xl, xh⟩ ⟨yl, yh⟩]).map heldC.enc)) else none
    | _ => none
  | _ => none
theorem p120 : ∀ args v, sp120 args = some v → v.pur = true := by
  intro args v h
  unfold sp120 at h
  split at h
  · split at h
    · split at h
      · cases h; exact slN_pur (enc_pur heldC _)
      · cases h
    · cases h
  · cases h
set_option maxHeartbeats 1000000 in
theorem F120 : IntrFn Tryz.prog 120 (pureFn sp120) := by
  refine pure_fn (X := dX cHB) cHB_sound p120 ?_
  intro args v h
  unfold sp120 at h
  split at h
  · rename_i la b0 xl xh yl yh n
    split at h
    · rename_i ms hl
      split at h
      · rename_i hc
        have h := Option.some.inj h
        subst h
        simp only [decide_eq_true_eq] at hc
        have hout := sl_out hl
        have hel : ∀ hp : Heap, hp.elems la = some (ms.map heldC.enc) := fun hp => (slV_is hl).1.elems hp
        have hel := hel ⟨0, .nil⟩
        have htup := (slV_is hl).1.tup
        simp only [isTuple] at htup
        have hsz : ∀ v ∈ ms.map heldC.enc, v.cells.length = 5 := fun v hv => by
          obtain ⟨k, _, rfl⟩ := List.mem_map.1 hv
          rfl
        have hlen : (ms.map heldC.enc).length ≤ most := by rw [List.length_map]; unfold most; omega
        have hll : (ms.map heldC.enc).length + (0 + 1) ≤ most := by rw [List.length_map]; unfold most; omega
        rw [List.map_append]
        clear hl hc
        refine ClR.walk (c := _) rfl Tryz.func120 rfl (by kernel_rfl) rfl isRet_fail ?_
        simp only [entryEnv, Nat.reduceAdd, emptyHp]
        repeat' (first | (apply W.draw (id := 2) (lc := [0, 1, 2, 3, 4, 5]) (hot := [(1, 2)]); kernel_rfl; kernel_rfl; kernel_rfl; exact Z4) | (refine WD.cons rfl rfl ?_) | (refine WD.nil ⟨?_, ?_⟩; rotate_left; simp only [tN, bN, eN, true_and]) | (refine calmR rfl rfl rfl rfl rfl ?_ ?_; (focus (first | exact Z2 | exact Z1))) | (refine calmE rfl rfl rfl rfl rfl ?_ ?_; (focus (first | exact Z2 | exact Z1))) | (with_reducible refine calmEnd) | (apply WO1.appendK (t := 156) (u := 156) (e := 181) (e' := 181) (sz := 5) (tl := []) (y := la) (l := ms.map heldC.enc); (focus (first | exact Z2 | exact Z1)); exact rfl; exact Z2; exact Z2; exact Z2; (focus (exact ty_row156)); (focus (exact hel)); (focus (exact hsz)); (focus (exact hlen)); (intro v1 hp1 hB1 ho1 hX1; simp only [pM, pN])) | (apply WO1.appendN (t := 156) (u := 156) (e := 181) (e' := 181) (sz := 5) (tl := []) (b := 0) (h0 := ⟨0, .nil⟩); (focus (exact hB1)); (focus (exact hX1)); exact Z1; exact rfl; exact Z2; exact Z2; exact Z2; (focus (exact ty_row156)); exact Z1; (focus (intro v hv; simp at hv; subst hv; rfl)); (focus (simp only [List.length_cons, List.length_nil]; exact hll)); (focus (simp)); (intro v2 hp2 hB2 ho2 hX2; have hc2 := hB2.blt.cells; have ht2 := hB2.blt.tup; obtain ⟨hf2, y1, y2, y3⟩ := hB2.blt.freeze; simp only [AV.cells] at hc2; simp only [isTuple] at ht2; simp only [pM, pN])) | refine go1 ?_ | refine go2 (fun hh => ?_) (fun hh => ?_) | fail)
        all_goals simp only [resV_def (X := dX cHB) Tryz.func120, Tryz.results120, resultsV, resultV, go_sem, *, Nat.reduceLT, Int.reduceEq, Int.reduceBEq, Int.reduceLE, Int.reduceLT, Nat.reduceAdd, Nat.reduceBEq, Nat.reduceEqDiff, reduceIte, Nat.reduceLeDiff, Nat.reduceMul, Nat.reduceSub, reduceCtorEq, frzRes, dFrz, frzCells, isRet_ret, tupleOf]
        all_goals rfl
      · cases h
    · cases h
  · cases h
theorem K120 {X : Ctx} (hX : X.intr 120 = some (pureFn sp120)) (la : AV) (ms : List Held) (b0 n : Int) (x : Bx) (hl : slV heldC la = some ms) (hm : ms.length ≤ 1000) (h : Heap) : Cl X 120 [la, .agg [.int .i64 b0, .int .i64 x.x.lo, .int .i64 x.x.hi, .int .i64 x.y.lo, .int .i64 x.y.hi], .int .i64 n] h (.ret (slN ((ms ++ [Held.mk n x.x x.y]).map heldC.enc)) h none) :=
  Cl.intr hX (by simp [pureFn, AV.pur, AV.purL, sl_pur hl, sp120, hl, hm])
def couldE (suit is : Bool) (l : List Nat) : List AV × List AV := if suit then (if is then (natsV l, [.int .i64 0]) else ([], [.int .i64 7])) else ([], [.int .i64 2])
theorem couldE_flat (s is : Bool) (l : List Nat) : (∀ e ∈ (couldE s is l).1, ∀ x ∈ e.cells, x.flat = true) ∧ ∀ x ∈ (couldE s is l).2, x.flat = true := by
  unfold couldE
  cases s
  · simp [AV.flat]
  · cases is
    · simp [AV.flat]
    · exact ⟨natsV_flat l, by simp [AV.flat]⟩
def sp63 : List AV → Option (List AV × List AV)
  | [.agg [sa, .int .i64 cxl, .int .i64 cxh, .int .i64 cyl, .int .i64 cyh, .int .i64 wxl, .int .i64 wxh, .int .i64 wyl, .int .i64 wyh, ra], .agg [ha, .int .i64 err]] => match slV ptC sa, slV rdgC ra, slV ptC ha with
    | some ss, some rs, some hs => some (couldE (suitB (machB ss ⟨cxl, cxh⟩ ⟨cyl, cyh⟩ ⟨wxl, wxh⟩ ⟨wyl, wyh⟩ rs) ss hs err) (possB ⟨cxl, cxh⟩ ⟨cyl, cyh⟩ ⟨wxl, wxh⟩ ⟨wyl, wyh⟩ rs) (couldN (fun n => (boxL err ss hs).any (canB ⟨cxl, cxh⟩ ⟨cyl, cyh⟩ ⟨wxl, wxh⟩ ⟨wyl, wyh⟩ rs n)) 12))
    | _, _, _ => none
  | _ => none
theorem p63 : ∀ args el rest, sp63 args = some (el, rest) → (∀ e ∈ el, ∀ x ∈ e.cells, x.flat = true) ∧ ∀ x ∈ rest, x.flat = true := by
  intro args el rest h
  unfold sp63 at h
  split at h
  · split at h
    · have h := Option.some.inj h
      have e1 := congrArg Prod.fst h
      have e2 := congrArg Prod.snd h
      simp only at e1 e2
      rw [← e1, ← e2]
      exact couldE_flat _ _ _
    · cases h
  · cases h
noncomputable def cHF : FuncId → Option (List AV → Heap → Option (AV × Heap))
  | 112 => some (pureFn sp112)
  | 132 => some (newFn 1 sp132)
  | _ => none
theorem cHF_sound : Sound (dX cHF) := dX_sound (fun f g h => by
  unfold cHF at h
  split at h
  · cases h; exact F112
  · cases h; exact F132
  · cases h)
theorem mach_small {ss : List Pt} {cx cy wx wy : Sp} {rs : List Rdg} (h : machB ss cx cy wx wy rs = true) : 2 ≤ ss.length ∧ ss.length ≤ 4 ∧ rs.length ≤ 4 := by
  unfold machB at h
  simp only [Bool.and_eq_true, decide_eq_true_eq] at h
  have h1 : allB ss 2 20 = true := by simp only [h]
  rw [allB_P] at h1
  simp only [pointsB, inB, Bool.and_eq_true, decide_eq_true_eq] at h1
  omega
theorem suit_small {ss hs : List Pt} {cx cy wx wy : Sp} {rs : List Rdg} {err : Int} (h : suitB (machB ss cx cy wx wy rs) ss hs err = true) : machB ss cx cy wx wy rs = true ∧ butB hs err = true ∧ hs.length = ss.length ∧ 2 ≤ ss.length ∧ ss.length ≤ 4 ∧ rs.length ≤ 4 := by
  unfold suitB at h
  simp only [Bool.and_eq_true, decide_eq_true_eq] at h
  exact ⟨h.1.1, h.1.2, h.2, mach_small h.1.1⟩
def SeeV {α : Type} (h : Heap) (c : Cd α) (a : AV) (l : List α) : Prop := ∃ a', viewV h a = some a' ∧ slV c a' = some l
theorem SeeV.of {α : Type} {c : Cd α} {a : AV} {l : List α} (hl : slV c a = some l) (h : Heap) : SeeV h c a l := by
  have hp := sl_pur hl
  rcases (slV_is hl).1 with ⟨rfl | rfl, _⟩ | rfl
  · exact ⟨_, rfl, hl⟩
  · exact ⟨_, rfl, hl⟩
  · exact ⟨_, by simp only [viewV, hp, if_true], hl⟩
theorem viewD_mach {h : Heap} {sa ra sa' ra' : AV} {cxl cxh cyl cyh wxl wxh wyl wyh : Int} (h1 : viewV h sa = some sa') (h2 : viewV h ra = some ra') :
    viewD h (.agg [sa, .int .i64 cxl, .int .i64 cxh, .int .i64 cyl, .int .i64 cyh, .int .i64 wxl, .int .i64 wxh, .int .i64 wyl, .int .i64 wyh, ra]) = some (.agg [sa', .int .i64 cxl, .int .i64 cxh, .int .i64 cyl, .int .i64 cyh, .int .i64 wxl, .int .i64 wxh, .int .i64 wyl, .int .i64 wyh, ra']) := by
  have e : ∀ n, viewV h (.int .i64 n) = some (.int .i64 n) := fun n => rfl
  simp only [viewD, viewVs, h1, h2, e, Option.map_some]
theorem viewD_but {h : Heap} {ha ha' : AV} {err : Int} (h1 : viewV h ha = some ha') : viewD h (.agg [ha, .int .i64 err]) = some (.agg [ha', .int .i64 err]) := by
  have e : ∀ n, viewV h (.int .i64 n) = some (.int .i64 n) := fun n => rfl
  simp only [viewD, viewVs, h1, e, Option.map_some]
theorem K132 {X : Ctx} (hX : X.intr 132 = some (newFn 1 sp132)) (sa ra ha : AV) (ss hs : List Pt) (rs : List Rdg) (cx cy wx wy : Sp) (err : Int) (h : Heap) (hl : SeeV h ptC sa ss) (hr : SeeV h rdgC ra rs) (hh : SeeV h ptC ha hs) (hg : suitB (machB ss cx cy wx wy rs) ss hs err = true) :
    ∃ v h', Cl X 132 [.agg [sa, .int .i64 cx.lo, .int .i64 cx.hi, .int .i64 cy.lo, .int .i64 cy.hi, .int .i64 wx.lo, .int .i64 wx.hi, .int .i64 wy.lo, .int .i64 wy.hi, ra], .agg [ha, .int .i64 err]] h (.ret (.tuple [v, .bool (possB cx cy wx wy rs)]) h' none) ∧
      Blt h' v 1 (if possB cx cy wx wy rs then natsV (couldN (fun n => (boxL err ss hs).any (canB cx cy wx wy rs n)) 12) else []) ∧ HExt h h' := by
  obtain ⟨sa', v1, s1⟩ := hl
  obtain ⟨ra', v2, s2⟩ := hr
  obtain ⟨ha', v3, s3⟩ := hh
  obtain ⟨_, _, h1, h2, h3, h4⟩ := suit_small hg
  have e : (decide (hs.length = ss.length) && decide (1 ≤ ss.length) && decide (ss.length ≤ 8) && decide (rs.length ≤ 1000)) = true := by
    simp only [Bool.and_eq_true, decide_eq_true_eq]; omega
  have hv : viewDs h [.agg [sa, .int .i64 cx.lo, .int .i64 cx.hi, .int .i64 cy.lo, .int .i64 cy.hi, .int .i64 wx.lo, .int .i64 wx.hi, .int .i64 wy.lo, .int .i64 wy.hi, ra], .agg [ha, .int .i64 err]] = some [.agg [sa', .int .i64 cx.lo, .int .i64 cx.hi, .int .i64 cy.lo, .int .i64 cy.hi, .int .i64 wx.lo, .int .i64 wx.hi, .int .i64 wy.lo, .int .i64 wy.hi, ra'], .agg [ha', .int .i64 err]] := by
    simp only [viewDs, viewD_mach v1 v2, viewD_but v3]
  have hs : sp132 [.agg [sa', .int .i64 cx.lo, .int .i64 cx.hi, .int .i64 cy.lo, .int .i64 cy.hi, .int .i64 wx.lo, .int .i64 wx.hi, .int .i64 wy.lo, .int .i64 wy.hi, ra'], .agg [ha', .int .i64 err]] = some (if possB cx cy wx wy rs then natsV (couldN (fun n => (boxL err ss hs).any (canB cx cy wx wy rs n)) 12) else [], [.bool (possB cx cy wx wy rs)]) := by
    simp only [sp132, s1, s2, s3, e, if_true, couldP]
    cases possB cx cy wx wy rs <;> rfl
  exact Cl.new hX hv hs
theorem K63 {X : Ctx} (hX : X.intr 63 = some (newFn 1 sp63)) (sa ra ha : AV) (ss hs : List Pt) (rs : List Rdg) (cx cy wx wy : Sp) (err : Int) (h : Heap) (hl : SeeV h ptC sa ss) (hr : SeeV h rdgC ra rs) (hh : SeeV h ptC ha hs) (suit poss : Bool) (l : List Nat)
    (e1 : suitB (machB ss cx cy wx wy rs) ss hs err = suit) (e2 : possB cx cy wx wy rs = poss) (e3 : couldN (fun n => (boxL err ss hs).any (canB cx cy wx wy rs n)) 12 = l) :
    ∃ v h', Cl X 63 [.agg [sa, .int .i64 cx.lo, .int .i64 cx.hi, .int .i64 cy.lo, .int .i64 cy.hi, .int .i64 wx.lo, .int .i64 wx.hi, .int .i64 wy.lo, .int .i64 wy.hi, ra], .agg [ha, .int .i64 err]] h (.ret (.tuple [v, .int .i64 (if suit then (if poss then 0 else 7) else 2)]) h' none) ∧
      Blt h' v 1 (if suit && poss then natsV l else []) ∧ HExt h h' := by
  obtain ⟨sa', v1, s1⟩ := hl
  obtain ⟨ra', v2, s2⟩ := hr
  obtain ⟨ha', v3, s3⟩ := hh
  have hv : viewDs h [.agg [sa, .int .i64 cx.lo, .int .i64 cx.hi, .int .i64 cy.lo, .int .i64 cy.hi, .int .i64 wx.lo, .int .i64 wx.hi, .int .i64 wy.lo, .int .i64 wy.hi, ra], .agg [ha, .int .i64 err]] = some [.agg [sa', .int .i64 cx.lo, .int .i64 cx.hi, .int .i64 cy.lo, .int .i64 cy.hi, .int .i64 wx.lo, .int .i64 wx.hi, .int .i64 wy.lo, .int .i64 wy.hi, ra'], .agg [ha', .int .i64 err]] := by
    simp only [viewDs, viewD_mach v1 v2, viewD_but v3]
  have hs : sp63 [.agg [sa', .int .i64 cx.lo, .int .i64 cx.hi, .int .i64 cy.lo, .int .i64 cy.hi, .int .i64 wx.lo, .int .i64 wx.hi, .int .i64 wy.lo, .int .i64 wy.hi, ra'], .agg [ha', .int .i64 err]] = some (if suit && poss then natsV l else [], [.int .i64 (if suit then (if poss then 0 else 7) else 2)]) := by
    simp only [sp63, s1, s2, s3, couldE, e1, e2, e3]
    cases suit <;> cases poss <;> rfl
  exact Cl.new hX hv hs
set_option maxHeartbeats 1000000 in
theorem F63 : IntrFn Tryz.prog 63 (newFn 1 sp63) := by
  refine new_fn (X := dX cHF) cHF_sound p63 ?_
  intro args el rest h
  unfold sp63 at h
  split at h
  · rename_i sa cxl cxh cyl cyh wxl wxh wyl wyh ra ha err
    split at h
    · rename_i ss rs hs hl hr hh
      have h := Option.some.inj h
      have e1 := congrArg Prod.fst h
      have e2 := congrArg Prod.snd h
      simp only at e1 e2
      rw [← e1, ← e2]
      clear h e1 e2
      have o1 := sl_out hh
      have o2 := sl_out hl
      have o3 := sl_out hr
      obtain ⟨one1, t1⟩ := sl_one hh
      obtain ⟨one2, t2⟩ := sl_one hl
      obtain ⟨one3, t3⟩ := sl_one hr
      have k112 := fun hp => K112 (X := dX cHF) rfl sa ra ha ss hs rs ⟨cxl, cxh⟩ ⟨cyl, cyh⟩ ⟨wxl, wxh⟩ ⟨wyl, wyh⟩ err hl hr hh hp
      have k132 := fun hg => K132 (X := dX cHF) rfl sa ra ha ss hs rs ⟨cxl, cxh⟩ ⟨cyl, cyh⟩ ⟨wxl, wxh⟩ ⟨wyl, wyh⟩ err ⟨0, .nil⟩ (.of hl _) (.of hr _) (.of hh _) hg
      generalize suitB (machB ss ⟨cxl, cxh⟩ ⟨cyl, cyh⟩ ⟨wxl, wxh⟩ ⟨wyl, wyh⟩ rs) ss hs err = suit at *
      generalize possB ⟨cxl, cxh⟩ ⟨cyl, cyh⟩ ⟨wxl, wxh⟩ ⟨wyl, wyh⟩ rs = poss at *
      generalize couldN (fun n => (boxL err ss hs).any (canB ⟨cxl, cxh⟩ ⟨cyl, cyh⟩ ⟨wxl, wxh⟩ ⟨wyl, wyh⟩ rs n)) 12 = l at *
      clear hl hr hh
      refine ClR.walk (c := _) rfl Tryz.func63 rfl (by kernel_rfl) rfl isNew_fail ?_
      simp only [entryEnv, Nat.reduceAdd, emptyHp]
      cases suit with
      | false =>
        simp only [couldE, Bool.false_eq_true, if_false]
        clear k132
        repeat' (first | refine goS ?_ | (apply U6; exact Z1; exact Z1; (focus (simp only [List.nil_append, List.append_nil]; first | exact k112 _)); simp only [pM, pN, rR, rP]) | refine go2 (fun hh => ?_) (fun hh => ?_) | fail)
        all_goals simp only [resV_def (X := dX cHF) Tryz.func63, Tryz.results63, resultsV, resultV, go_sem, *, Nat.reduceLT, Int.reduceEq, Int.reduceBEq, Int.reduceLE, Int.reduceLT, Nat.reduceAdd, Nat.reduceBEq, Nat.reduceEqDiff, reduceIte, Nat.reduceLeDiff, Nat.reduceMul, Nat.reduceSub, reduceCtorEq, frzRes, dFrz, frzCells, isRet_ret, tupleOf]
        exact isNew_mk Blt.nil
      | true =>
        obtain ⟨v, hp1, hcl, hb, hx⟩ := k132 rfl
        clear k132
        have HX := Lib.hid hx
        have ov := hb.out
        have tv := hb.tup
        have cv := hb.cells
        simp only [AV.cells] at cv
        simp only [isTuple] at tv
        cases poss
        all_goals (
          simp only [couldE, if_true, Bool.false_eq_true, if_false] at hb ⊢
          have HB := Lib.hid hb
          clear hb hx
          repeat' (first | (apply U6; exact Z1; exact Z1; (focus (exact hcl)); simp only [pM, pN, rR, rP]) | refine go1 ?_ | (apply U6; exact Z1; exact Z1; (focus (simp only [List.nil_append, List.append_nil]; first | exact k112 _)); simp only [pM, pN, rR, rP]) | refine go2 (fun hh => ?_) (fun hh => ?_) | fail)
          all_goals simp only [resV_def (X := dX cHF) Tryz.func63, Tryz.results63, resultsV, resultV, go_sem, *, Nat.reduceLT, Int.reduceEq, Int.reduceBEq, Int.reduceLE, Int.reduceLT, Nat.reduceAdd, Nat.reduceBEq, Nat.reduceEqDiff, reduceIte, Nat.reduceLeDiff, Nat.reduceMul, Nat.reduceSub, reduceCtorEq, frzRes, dFrz, frzCells, isRet_ret, tupleOf])
        · exact isNew_mk Blt.nil
        · exact isNew_mk HB.out
    · cases h
  · cases h
end Go.AM
set_option linter.unusedSectionVars false
set_option linter.unusedVariables false
set_option linter.unusedSimpArgs false
set_option maxRecDepth 100000
namespace Go.AM
open Go Go.Proofs
variable [Keep]
attribute [local irreducible] W WO WO1 WD WQ WT thenQ blockQ endR isRet retK Cl ClR
attribute [local irreducible] roundQ RdR clR boundsS machB boxL suitB ordsR lev
def wideB : Bx := ⟨wideS, wideS⟩
def bxI (a b : Bx) : Bx := ⟨interS a.x b.x, interS a.y b.y⟩
def bxEq (a b : Bx) : Bool := (a.x.lo == b.x.lo && a.x.hi == b.x.hi) && (a.y.lo == b.y.lo && a.y.hi == b.y.hi)
def refNow (err : Int) (ss hs : List Pt) (t : Nat) (o : List Nat) (i : Nat) : Bx := nowB err (ss.getD i ⟨0, 0⟩) (turnR (hs.getD (o.getD i 0) ⟨0, 0⟩) (t : Nat))
def refBx (err : Int) (ss hs : List Pt) (t : Nat) (o : List Nat) (n : Nat) : Bx := (List.range n).foldl (fun x i => bxI x (refNow err ss hs t o i)) wideB
def addB (out : List Bx) (x : Bx) : List Bx := if empS x.x || empS x.y || out.any (fun y => bxEq y x) then out else out ++ [x]
def refTo (err : Int) (ss hs : List Pt) (t : Nat) (os : List (List Nat)) (out : List Bx) : List Bx := os.foldl (fun out o => addB out (refBx err ss hs t o ss.length)) out
def refBoxes (err : Int) (ss hs : List Pt) (k : Nat) : List Bx := (List.range k).foldl (fun out t => refTo err ss hs t (lev ss.length ss.length) out) []
def markE (b : Bx) : AV := .agg [.int .i64 0, .int .i64 b.x.lo, .int .i64 b.x.hi, .int .i64 b.y.lo, .int .i64 b.y.hi]
theorem addB_len (out : List Bx) (x : Bx) : (addB out x).length ≤ out.length + 1 := by
  unfold addB
  split <;> simp
theorem refBx_succ (err : Int) (ss hs : List Pt) (t : Nat) (o : List Nat) (n : Nat) : refBx err ss hs t o (n + 1) = bxI (refBx err ss hs t o n) (refNow err ss hs t o n) := by
  unfold refBx
  rw [List.range_succ, List.foldl_append]
  rfl
theorem refTo_next {err : Int} {ss hs : List Pt} {t : Nat} {os : List (List Nat)} {out : List Bx} {k : Nat} {p : List Nat} (h : os[k]? = some p) : refTo err ss hs t (os.take (k + 1)) out = addB (refTo err ss hs t (os.take k) out) (refBx err ss hs t p ss.length) := by
  unfold refTo
  rw [take_next h, List.foldl_append]
  rfl
theorem refBoxes_succ (err : Int) (ss hs : List Pt) (k : Nat) : refBoxes err ss hs (k + 1) = refTo err ss hs k (lev ss.length ss.length) (refBoxes err ss hs k) := by
  unfold refBoxes
  rw [List.range_succ, List.foldl_append]
  rfl
theorem any_take {α : Type} {l : List α} {j : Nat} {y : α} (f : α → Bool) (h : l[j]? = some y) : (l.take (j + 1)).any f = ((l.take j).any f || f y) := by
  rw [take_next h, List.any_append]
  simp
def sp109 : List AV → Option AV
  | [.agg [sa, .int .i64 cxl, .int .i64 cxh, .int .i64 cyl, .int .i64 cyh, .int .i64 wxl, .int .i64 wxh, .int .i64 wyl, .int .i64 wyh, ra], .agg [ha, .int .i64 err]] => match slV ptC sa, slV rdgC ra, slV ptC ha with
    | some ss, some rs, some hs => if (decide (hs.length = ss.length) && decide (1 ≤ ss.length) && decide (ss.length ≤ 4)) = true then some (slN ((refBoxes err ss hs 8).map markE)) else none
    | _, _, _ => none
  | _ => none
theorem markE_pur (l : List Bx) : ∀ a ∈ l.map markE, a.pur = true := by
  intro a ha
  obtain ⟨k, _, rfl⟩ := List.mem_map.1 ha
  rfl
theorem p109 : ∀ args v, sp109 args = some v → v.pur = true := by
  intro args v h
  unfold sp109 at h
  split at h
  · split at h
    · split at h
      · have h := Option.some.inj h
        subst h
        exact slN_pur (markE_pur _)
      · cases h
    · cases h
  · cases h
noncomputable def cHG : FuncId → Option (List AV → Heap → Option (AV × Heap))
  | 81 => some (pureFn sp81)
  | 158 => some (pureFn sp158)
  | _ => none
theorem cHG_sound : Sound (dX cHG) := dX_sound (fun f g h => by
  unfold cHG at h
  split at h
  · cases h; exact F81
  · cases h; exact F158
  · cases h)
theorem mark_row {H : Heap} {u : AV} {l : List Bx} {j : Nat} {y : Bx} (b : Blt H u 5 (l.map markE)) (h : l[j]? = some y) : ∃ id, indexAddrV Tryz.prog H 156 u (.int .i64 ↑j) = some (.eptr id 5 j 0) ∧ H.get id = some (.rw 5 (l.map markE)) ∧ (l.map markE)[j]? = some (.agg [.int .i64 0, .int .i64 y.x.lo, .int .i64 y.x.hi, .int .i64 y.y.lo, .int .i64 y.y.hi]) := by
  have hj : j < (l.map markE).length := by
    rw [List.length_map]
    rcases Nat.lt_or_ge j l.length with q | q
    · exact q
    · rw [List.getElem?_eq_none q] at h; cases h
  obtain ⟨id, e1, e2⟩ := b.idx (P := Tryz.prog) (t := 156) (e := 181) (ag := true) Tryz.underlying156 ty_lay181 hj
  exact ⟨id, e1, e2, by simp [h, markE]⟩
set_option maxHeartbeats 8000000 in
theorem F109 : IntrFn Tryz.prog 109 (pureFn sp109) := by
  refine pure_fn (X := dX cHG) cHG_sound p109 ?_
  intro args v h
  unfold sp109 at h
  split at h
  · rename_i sa cxl cxh cyl cyh wxl wxh wyl wyh ra ha err
    split at h
    · rename_i ss rs hs hl hr hh
      split at h
      · rename_i hc
        have h := Option.some.inj h
        subst h
        simp only [Bool.and_eq_true, decide_eq_true_eq] at hc
        obtain ⟨⟨hsl, hn1⟩, hn4⟩ := hc
        have o1 := sl_out hh
        have o2 := sl_out hl
        have o3 := sl_out hr
        have l1 := sl_len hh
        have l2 := sl_len hl
        rw [hsl] at l1
        obtain ⟨one1, t1⟩ := sl_one hh
        obtain ⟨one2, t2⟩ := sl_one hl
        obtain ⟨one3, t3⟩ := sl_one hr
        have hcl0 := C129 cHG rfl ss.length hn1 hn4 ⟨0, .nil⟩
        unfold ClR at hcl0
        obtain ⟨rr, hcl, hcr⟩ := hcl0
        unfold ordsR at hcr
        obtain ⟨es, hz, rfl, hzx, hel⟩ := hcr
        have hes : es.length ≤ 256 := by
          have h1 := hel.1
          have h2 := lev_small hn4 ss.length hn4
          have h3 : 4 ^ ss.length ≤ 4 ^ 4 := Nat.pow_le_pow_right (by omega) hn4
          omega
        have HEL := Lib.hid hel
        have HES := Lib.hid hes
        have HL := Lib.hid hl
        have HH := Lib.hid hh
        have HSL := Lib.hid hsl
        have HN1 := Lib.hid hn1
        have HN4 := Lib.hid hn4
        generalize hres : refBoxes err ss hs 8 = res
        have HRES := Lib.hid hres
        clear hl hr hh hsl hn1 hn4 hzx hel hes hres
        refine ClR.walk (c := _) rfl Tryz.func109 rfl (by kernel_rfl) rfl isRet_fail ?_
        simp only [entryEnv, Nat.reduceAdd, emptyHp]
        repeat' (first | (apply U6; exact Z1; exact Z1; (focus (exact hcl)); simp only [pM, pN, rR, rP]) | refine go1 ?_ | refine go2 (fun hh => ?_) (fun hh => ?_) | fail)
        refine W.loopN 8 (fun t F => ∃ e lm hp u out, F = Fr.mk 109 false e lm hp [] none ∧ HExt hz hp ∧ BltN hz.next hp u 5 (out.map markE) ∧ out = refBoxes err ss hs t ∧ out.length ≤ 256 * t ∧
          lm.get 2 = some (0, [sa, .int .i64 cxl, .int .i64 cxh, .int .i64 cyl, .int .i64 cyh, .int .i64 wxl, .int .i64 wxh, .int .i64 wyl, .int .i64 wyh, ra]) ∧ lm.get 3 = some (0, [ha, .int .i64 err]) ∧ e.get 2 = some (.lptr 2 0 0) ∧ e.get 3 = some (.lptr 3 0 0) ∧ e.get 5 = some u ∧ e.get 6 = some (.vslice es) ∧ e.get 7 = some (.int .i64 ↑t) ∧ t ≤ 8) ?_ ?_
        · refine ⟨_, _, hz, .nilslice, [], rfl, HExt.refl hz, BltN.nil, rfl, by simp, ?_, ?_, ?_, ?_, ?_, ?_, ?_, ?_⟩ <;> first | exact Z2 | simp [go_sem, *]
        clear hcl
        rintro t F ⟨e, lm, hp, u, out, rfl, hxe, hbu, hot, hol, m2, m3, h2, h3, h5, h6, h7, ht⟩
        have HXE := Lib.hid hxe
        have HBU := Lib.hid hbu
        have HOT := Lib.hid hot
        have HOL := Lib.hid hol
        clear hot hol hxe hbu
        by_cases ht8 : t < 8
        · have hd : decide ((t : Int) < 8) = true := by simp; omega
          have hw := wrap_succ (m := 8) ht8 (by unfold maxL; omega)
          have HU5 := Lib.hid h5
          have ou := HBU.out.blt.out
          have HXE0 := HXE
          have HBU0 := HBU
          clear HXE HBU
          repeat' (first | refine goS ?_ | refine go2 (fun hh => ?_) (fun hh => ?_) | fail)
          refine W.loopN es.length (fun k F => ∃ e lm hp u o2, F = Fr.mk 109 false e lm hp [] none ∧ HExt hz hp ∧ BltN hz.next hp u 5 (o2.map markE) ∧ o2 = refTo err ss hs t ((lev ss.length ss.length).take k) out ∧ o2.length ≤ 256 * t + k ∧
            lm.get 2 = some (0, [sa, .int .i64 cxl, .int .i64 cxh, .int .i64 cyl, .int .i64 cyh, .int .i64 wxl, .int .i64 wxh, .int .i64 wyl, .int .i64 wyh, ra]) ∧ lm.get 3 = some (0, [ha, .int .i64 err]) ∧ e.get 2 = some (.lptr 2 0 0) ∧ e.get 3 = some (.lptr 3 0 0) ∧ e.get 5 = some u ∧ e.get 6 = some (.vslice es) ∧ e.get 7 = some (.int .i64 ↑t) ∧ e.get 8 = some (.int .i64 ↑k) ∧ k ≤ es.length) ?_ ?_
          · refine ⟨_, _, hp, u, out, rfl, HXE0.out, HBU0.out, rfl, by have := HOL.out; omega, ?_, ?_, ?_, ?_, ?_, ?_, ?_, ?_, ?_⟩ <;> first | exact Z2 | simp [go_sem, *]
          clear m2 m3 h2 h3 h5 h6 h7 hd HXE0 HBU0 ou HU5
          rintro k F ⟨e, lm, hp, u, o2, rfl, hxe, hbu, hot2, hol2, m2, m3, h2, h3, h5, h6, h7, h8, hk⟩
          have HXE := Lib.hid hxe
          have HBU := Lib.hid hbu
          have HOT2 := Lib.hid hot2
          have HOL2 := Lib.hid hol2
          have ou := hbu.blt.out
          have lu := hbu.blt.len
          have tu := hbu.blt.tup
          simp only [isTuple] at tu
          rw [List.length_map] at lu
          clear hot2 hol2 hxe hbu
          by_cases hkl : k < es.length
          · have hd : decide ((k : Int) < (es.length : Int)) = true := by simpa using hkl
            have hw2 := wrap_succ (m := es.length) hkl (by have := HES.out; unfold maxL; omega)
            obtain ⟨r, hr⟩ := get_some hkl
            obtain ⟨p, hp'⟩ := get_some (show k < (lev ss.length ss.length).length by rw [← HEL.out.1]; exact hkl)
            have hBr : Blt hp r 1 (natsV p) := (HEL.out.2 k r p hr hp').ext HXE.out
            have hpm := List.mem_of_getElem? hp'
            have hpl : p.length = ss.length := lev_len _ p hpm
            have hpn : ∀ k ∈ p, k < ss.length := (lev_ord (p := p) _ p hpm).2
            have hix : indexAddrV Tryz.prog hp 194 (.vslice es) (.int .i64 ↑k) = some (.vptr [r]) := by
              have : idxV (.int .i64 (k : Int)) es.length = some k := by simp [idxV, hkl]
              simp only [indexAddrV, Tryz.underlying194, ty_lay39, this, hr, hBr.cells, List.length_cons, List.length_nil, Nat.zero_add, if_true]
            have cr := hBr.cells
            have orr := hBr.out
            have tr := hBr.tup
            simp only [AV.cells] at cr
            simp only [isTuple] at tr
            have HP := Lib.hid hp'
            have HB := Lib.hid hBr
            have HPL := Lib.hid hpl
            have HPN := Lib.hid hpn
            have HOU := Lib.hid ou
            have HLU := Lib.hid lu
            clear hr hp' hBr hpm hpl hpn ou lu tu
            repeat' (first | refine goS ?_ | refine go2 (fun hh => ?_) (fun hh => ?_) | fail)
            refine W.loopN ss.length (fun i F => ∃ e lm g x, F = Fr.mk 109 false e lm hp [] none ∧ x = refBx err ss hs t p i ∧ lm.get 9 = some (g, [.int .i64 0, .int .i64 x.x.lo, .int .i64 x.x.hi, .int .i64 x.y.lo, .int .i64 x.y.hi]) ∧ e.get 9 = some (.lptr 9 g 0) ∧
              lm.get 2 = some (0, [sa, .int .i64 cxl, .int .i64 cxh, .int .i64 cyl, .int .i64 cyh, .int .i64 wxl, .int .i64 wxh, .int .i64 wyl, .int .i64 wyh, ra]) ∧ lm.get 3 = some (0, [ha, .int .i64 err]) ∧ e.get 2 = some (.lptr 2 0 0) ∧ e.get 3 = some (.lptr 3 0 0) ∧ e.get 5 = some u ∧ e.get 6 = some (.vslice es) ∧ e.get 7 = some (.int .i64 ↑t) ∧ e.get 8 = some (.int .i64 ↑k) ∧ e.get 10 = some (.int .i64 ↑i) ∧ i ≤ ss.length) ?_ ?_
            · refine ⟨_, _, nextGen lm 9, wideB, rfl, rfl, ?_, ?_, ?_, ?_, ?_, ?_, ?_, ?_, ?_, ?_, ?_, ?_⟩ <;> first | (simp only [nextGen, wideB, wideS, go_sem, *, Nat.reduceLT, Int.reduceEq, Int.reduceBEq, Int.reduceLE, Int.reduceLT, Nat.reduceAdd, Nat.reduceBEq, Nat.reduceEqDiff, reduceIte, Nat.reduceLeDiff, Nat.reduceMul, Nat.reduceSub, reduceCtorEq]; done) | simp [nextGen, wideB, wideS, go_sem, *, Nat.reduceLT, Int.reduceEq, Int.reduceBEq, Int.reduceLE, Int.reduceLT, Nat.reduceAdd, Nat.reduceBEq, Nat.reduceEqDiff, reduceIte, Nat.reduceLeDiff, Nat.reduceMul, Nat.reduceSub, reduceCtorEq]
            clear m2 m3 h2 h3 h5 h6 h7 h8 hd
            rintro i F ⟨e, lm, g, x, rfl, hx, m9, h9, m2, m3, h2, h3, h5, h6, h7, h8, h10, hi⟩
            have HX := Lib.hid hx
            clear hx
            by_cases hil : i < ss.length
            · have hd : decide ((i : Int) < (ss.length : Int)) = true := by simpa using hil
              have hw3 := wrap_succ (m := ss.length) hil (by have := HN4.out; unfold maxL; omega)
              obtain ⟨s, hs'⟩ := get_some hil
              obtain ⟨v, hv⟩ := get_some (show i < p.length by rw [HPL.out]; exact hil)
              have hvn : v < hs.length := by rw [HSL.out]; exact HPN.out v (List.mem_of_getElem? hv)
              obtain ⟨q, hq⟩ := get_some hvn
              obtain ⟨id, hidx, hgr⟩ := HB.out.idx (P := Tryz.prog) (t := 39) (e := 3) (ag := false) Tryz.underlying39 ty_lay3 (k := i) (by rw [natsV_len, HPL.out]; exact hil)
              have hav := nat_at' hv
              have hi1 := pts_idx HL.out hs'
              have hi2 := pts_idx HH.out hq
              have hnx : refBx err ss hs t p (i + 1) = bxI x (nowB err s (turnR q (t : Nat))) := by
                rw [refBx_succ, ← HX.out]
                simp [refNow, List.getD, hs', hv, hq]
              have k81 := fun h => K81 (X := dX cHG) rfl q (t : Nat) h
              generalize turnR q (t : Nat) = w at *
              have w1 : IntKind.i64.wrap (w.x - s.x) = w64 (w.x - s.x) := rfl
              have w2 : IntKind.i64.wrap (w.y - s.y) = w64 (w.y - s.y) := rfl
              have hnow : nowB err s w = ⟨⟨w64 (w64 (w.x - s.x) - err), w64 (w64 (w.x - s.x) + err)⟩, ⟨w64 (w64 (w.y - s.y) - err), w64 (w64 (w.y - s.y) + err)⟩⟩ := rfl
              rw [hnow] at hnx
              generalize w64 (w.x - s.x) = dx at *
              generalize w64 (w.y - s.y) = dy at *
              have w3 : IntKind.i64.wrap (dx - err) = w64 (dx - err) := rfl
              have w4 : IntKind.i64.wrap (dx + err) = w64 (dx + err) := rfl
              have w5 : IntKind.i64.wrap (dy - err) = w64 (dy - err) := rfl
              have w6 : IntKind.i64.wrap (dy + err) = w64 (dy + err) := rfl
              generalize w64 (dx - err) = xl at *
              generalize w64 (dx + err) = xh at *
              generalize w64 (dy - err) = yl at *
              generalize w64 (dy + err) = yh at *
              have k158x := fun h => K158 (X := dX cHG) rfl x.x.lo x.x.hi xl xh h
              have k158y := fun h => K158 (X := dX cHG) rfl x.y.lo x.y.hi yl yh h
              have HNX := Lib.hid hnx
              clear hs' hv hq hnx hnow
              repeat' (first | (apply W.draw (id := 13) (lc := [18, 19, 0, 1, 2, 3, 4, 5, 6, 7, 8, 9, 10, 11, 12, 13, 14, 15, 16, 17, 20, 21]) (hot := [(12, 14), (12, 16), (12, 17), (14, 20), (16, 20), (17, 20)]); kernel_rfl; kernel_rfl; kernel_rfl; exact Z4) | (apply WD.cons (o := ⟨some 47, _, _, _, _, none⟩); exact rfl; exact rfl) | (apply WD.cons (o := ⟨some 48, _, _, _, _, none⟩); exact rfl; exact rfl) | (apply WD.cons (o := ⟨some 49, _, _, _, _, none⟩); exact rfl; exact rfl) | (apply WD.cons (o := ⟨some 50, _, _, _, _, none⟩); exact rfl; exact rfl) | (apply WD.cons (o := ⟨some 51, _, _, _, _, none⟩); exact rfl; exact rfl) | (apply WD.cons (o := ⟨some 52, _, _, _, _, none⟩); exact rfl; exact rfl) | (apply WD.cons (o := ⟨some 53, _, _, _, _, none⟩); exact rfl; exact rfl) | (apply WD.cons (o := ⟨some 54, _, _, _, _, none⟩); exact rfl; exact rfl) | (apply WD.cons (o := ⟨some 55, _, _, _, _, none⟩); exact rfl; exact rfl) | (apply WD.cons (o := ⟨some 56, _, _, _, _, none⟩); exact rfl; exact rfl) | (apply WD.alloc (o := ⟨some 11, .alloc 38, 0, _, _, none⟩); exact rfl; exact rfl; exact Z1; simp only [pM, pN]) | (apply WD.alloc (o := ⟨some 12, .alloc 38, 0, _, _, none⟩); exact rfl; exact rfl; exact Z1; simp only [pM, pN]) | (apply WD.cons (o := ⟨none, .store 38 (.tmp 11) (.tmp 51), _, _, _, none⟩); exact rfl; exact rfl) | (apply WD.cons (o := ⟨none, .store 38 (.tmp 12) (.tmp 56), _, _, _, none⟩); exact rfl; exact rfl) | (refine WD.cons rfl rfl ?_) | (refine WD.nil ⟨?_, ?_⟩; rotate_left; simp only [tN, bN, eN, true_and]) | (refine calmR rfl rfl rfl rfl rfl ?_ ?_; (focus (first | exact Z2 | exact Z1))) | (refine calmE rfl rfl rfl rfl rfl ?_ ?_; (focus (first | exact Z2 | exact Z1))) | (with_reducible refine calmEnd) | refine go1 ?_ | (apply U6; exact Z1; exact Z1; (focus (simp only [List.nil_append, List.append_nil]; first | exact k81 _ | exact k158x _ | exact k158y _)); simp only [pM, pN, rR, rP]) | refine go2 (fun hh => ?_) (fun hh => ?_) | fail)
              refine ⟨hil, _, _, g, bxI x ⟨⟨xl, xh⟩, ⟨yl, yh⟩⟩, rfl, HNX.out.symm, ?_, ?_, ?_, ?_, ?_, ?_, ?_, ?_, ?_, ?_, ?_, by omega⟩
              all_goals first | (simp only [bxI, interS, go_sem, *, Nat.reduceLT, Int.reduceEq, Int.reduceBEq, Int.reduceLE, Int.reduceLT, Nat.reduceAdd, Nat.reduceBEq, Nat.reduceEqDiff, reduceIte, Nat.reduceLeDiff, Nat.reduceMul, Nat.reduceSub, reduceCtorEq]; done) | simp [bxI, interS, go_sem, *, Nat.reduceLT, Int.reduceEq, Int.reduceBEq, Int.reduceLE, Int.reduceLT, Nat.reduceAdd, Nat.reduceBEq, Nat.reduceEqDiff, reduceIte, Nat.reduceLeDiff, Nat.reduceMul, Nat.reduceSub, reduceCtorEq]
            · have hd : decide ((i : Int) < (ss.length : Int)) = false := by simpa using hil
              have hii : i = ss.length := by omega
              have hx := HX.out
              rw [hii] at hx
              have HX2 := Lib.hid hx
              have hem : addB o2 x = if (empS x.x || empS x.y) || o2.any (fun y => bxEq y x) then o2 else o2 ++ [x] := rfl
              have HEM := Lib.hid hem
              have hnt := refTo_next (err := err) (ss := ss) (hs := hs) (t := t) (out := out) HP.out
              rw [← HOT2.out, ← hx] at hnt
              have HNT := Lib.hid hnt
              have hep : empS x.x = decide (x.x.lo > x.x.hi) := rfl
              have hep2 : empS x.y = decide (x.y.lo > x.y.hi) := rfl
              have ou := HOU.out
              have lu := HLU.out
              have HII := Lib.hid hii
              have hcase : (decide (x.x.lo > x.x.hi) = true ∧ (empS x.x || empS x.y) = true) ∨ (decide (x.x.lo > x.x.hi) = false ∧ decide (x.y.lo > x.y.hi) = true ∧ (empS x.x || empS x.y) = true) ∨ (decide (x.x.lo > x.x.hi) = false ∧ decide (x.y.lo > x.y.hi) = false ∧ (empS x.x || empS x.y) = false) := by
                rw [hep, hep2]
                cases decide (x.x.lo > x.x.hi) <;> cases decide (x.y.lo > x.y.hi) <;> simp
              generalize (empS x.x || empS x.y) = mz at *
              clear hii hx hem hnt HX hil hi hep hep2
              have hfin : ∀ (b : Bool), (mz || o2.any (fun y => bxEq y x)) = b → addB o2 x = if b then o2 else o2 ++ [x] := fun b hb => by rw [HEM.out, hb]
              have HFIN := Lib.hid hfin
              clear hfin
              rcases hcase with ⟨c1, cm⟩ | ⟨c1, c2, cm⟩ | ⟨c1, c2, cm⟩
              all_goals (have HM := Lib.hid cm; clear cm)
              all_goals repeat' (first | refine goS ?_ | refine go2 (fun hh => ?_) (fun hh => ?_) | fail)
              all_goals (
                refine W.loopN o2.length (fun j F => ∃ e, F = Fr.mk 109 false e lm hp [] none ∧ e.get 13 = some (.bool (mz || (o2.take j).any (fun y => bxEq y x))) ∧ e.get 9 = some (.lptr 9 g 0) ∧
                  e.get 2 = some (.lptr 2 0 0) ∧ e.get 3 = some (.lptr 3 0 0) ∧ e.get 5 = some u ∧ e.get 6 = some (.vslice es) ∧ e.get 7 = some (.int .i64 ↑t) ∧ e.get 8 = some (.int .i64 ↑k) ∧ e.get 14 = some (.int .i64 ↑j) ∧ j ≤ o2.length) ?_ ?_
                · refine ⟨_, rfl, ?_, ?_, ?_, ?_, ?_, ?_, ?_, ?_, ?_, by omega⟩
                  · rw [HM.out]; simp only [List.take_zero, List.any_nil, Bool.or_false, go_sem, *, Nat.reduceLT, Int.reduceEq, Int.reduceBEq, Int.reduceLE, Int.reduceLT, Nat.reduceAdd, Nat.reduceBEq, Nat.reduceEqDiff, reduceIte, Nat.reduceLeDiff, Nat.reduceMul, Nat.reduceSub, reduceCtorEq]
                  all_goals first | exact Z2 | simp [go_sem, *]
                clear h2 h3 h5 h6 h7 h8 h9 h10 hd
                rintro j F ⟨e, rfl, h13, h9, h2, h3, h5, h6, h7, h8, h14, hj⟩
                by_cases hjl : j < o2.length
                · have hd : decide ((j : Int) < (o2.length : Int)) = true := by simpa using hjl
                  have hw4 := wrap_succ (m := o2.length) hjl (by have := HOL2.out; have := HES.out; unfold maxL; omega)
                  obtain ⟨y, hy⟩ := get_some hjl
                  obtain ⟨id, hidx, hgr, hat⟩ := mark_row HBU.out.blt hy
                  have heq := eq181 0 y.x.lo y.x.hi y.y.lo y.y.hi 0 x.x.lo x.x.hi x.y.lo x.y.hi
                  rw [show ((0 : Int) == 0 && (y.x.lo == x.x.lo && y.x.hi == x.x.hi) && (y.y.lo == x.y.lo && y.y.hi == x.y.hi)) = bxEq y x from by simp [bxEq]] at heq
                  have hnx := any_take (fun y => bxEq y x) hy
                  have HNX := Lib.hid hnx
                  clear hy hnx
                  generalize bxEq y x = bq at *
                  generalize hcm : (mz || (o2.take j).any (fun y => bxEq y x)) = cm at *
                  have HCM := Lib.hid hcm
                  clear hcm
                  cases cm
                  all_goals repeat' (first | (apply W.drawQ (id := 20) (l1 := [0, 1, 2, 3, 4, 5, 6, 7, 8, 9]) (l2 := []); kernel_rfl; kernel_rfl; kernel_rfl; exact Z4) | refine go1 ?_ | refine go2 (fun hh => ?_) (fun hh => ?_) | fail)
                  all_goals (
                    refine ⟨hjl, _, rfl, ?_, ?_, ?_, ?_, ?_, ?_, ?_, ?_, ?_, by omega⟩
                    · rw [HNX.out, ← Bool.or_assoc, HCM.out]; simp only [Bool.true_or, Bool.false_or, go_sem, *, Nat.reduceLT, Int.reduceEq, Int.reduceBEq, Int.reduceLE, Int.reduceLT, Nat.reduceAdd, Nat.reduceBEq, Nat.reduceEqDiff, reduceIte, Nat.reduceLeDiff, Nat.reduceMul, Nat.reduceSub, reduceCtorEq]
                    all_goals exact Z2)
                · have hd : decide ((j : Int) < (o2.length : Int)) = false := by simpa using hjl
                  have hjj : j = o2.length := by omega
                  rw [hjj, List.take_length] at h13
                  have had0 := HFIN.out _ rfl
                  generalize (mz || o2.any (fun y => bxEq y x)) = cm at h13 had0
                  have HAD := Lib.hid had0
                  have HJ := Lib.hid hjj
                  clear hjj had0 hjl hj
                  cases cm
                  · have hll : (o2.map markE).length + (0 + 1) ≤ most := by
                      rw [List.length_map]
                      have := HOL2.out
                      have := HES.out
                      unfold most; omega
                    repeat' (first | (apply WO1.appendN (t := 156) (u := 156) (e := 181) (e' := 181) (sz := 5) (tl := []) (b := hz.next) (h0 := hz); (focus (exact HBU.out)); (focus (exact HXE.out)); exact Z1; exact rfl; exact Z2; exact Z2; exact Z2; (focus (exact ty_row156)); exact Z1; (focus (intro v hv; simp at hv; subst hv; rfl)); (focus (simp only [List.length_cons, List.length_nil]; exact hll)); (focus (simp)); (intro v2 hp2 hB2 ho2 hX2; have hc2 := hB2.blt.cells; have ht2 := hB2.blt.tup; simp only [AV.cells] at hc2; simp only [isTuple] at ht2; simp only [pM, pN])) | refine go1 ?_ | refine go2 (fun hh => ?_) (fun hh => ?_) | fail)
                    have had : addB o2 x = o2 ++ [x] := by rw [HAD.out]; rfl
                    refine ⟨hkl, _, _, hp2, v2, o2 ++ [x], rfl, hX2, ?_, ?_, ?_, ?_, ?_, ?_, ?_, ?_, ?_, ?_, ?_, by omega⟩
                    · have e3 : (o2 ++ [x]).map markE = o2.map markE ++ [.agg [.int .i64 0, .int .i64 x.x.lo, .int .i64 x.x.hi, .int .i64 x.y.lo, .int .i64 x.y.hi]] := by simp [markE]
                      rw [e3]; exact hB2
                    · rw [HNT.out]; exact had.symm
                    · have := HOL2.out
                      simp only [List.length_append, List.length_cons, List.length_nil]; omega
                    all_goals exact Z2
                  · repeat' (first | refine goS ?_ | refine go2 (fun hh => ?_) (fun hh => ?_) | fail)
                    have had : addB o2 x = o2 := by rw [HAD.out]; rfl
                    refine ⟨hkl, _, _, hp, u, o2, rfl, HXE.out, HBU.out, ?_, ?_, ?_, ?_, ?_, ?_, ?_, ?_, ?_, ?_, by omega⟩
                    · rw [HNT.out]; exact had.symm
                    · have := HOL2.out
                      omega
                    all_goals exact Z2)
          · have hd : decide ((k : Int) < (es.length : Int)) = false := by simpa using hkl
            have hke : k = es.length := by omega
            have ho2 : o2 = refBoxes err ss hs (t + 1) := by
              rw [HOT2.out, hke, HEL.out.1, List.take_length, HOT.out, refBoxes_succ]
            have HO2 := Lib.hid ho2
            have HK := Lib.hid hk
            clear hke ho2 hkl hk
            repeat' (first | refine goS ?_ | refine go2 (fun hh => ?_) (fun hh => ?_) | fail)
            refine ⟨ht8, _, _, hp, u, o2, rfl, HXE.out, HBU.out, HO2.out, ?_, ?_, ?_, ?_, ?_, ?_, ?_, ?_, by omega⟩
            · have := HOL2.out
              have := HK.out
              have := HES.out
              omega
            all_goals exact Z2
        · have hd : decide ((t : Int) < 8) = false := by simp; omega
          have htt : t = 8 := by omega
          have hor : out = res := by rw [HOT.out, htt, HRES.out]
          subst hor
          obtain ⟨hf2, y1, y2, y3⟩ := HBU.out.blt.freeze
          have ou := HBU.out.blt.out
          have cu := HBU.out.blt.cells
          have tu := HBU.out.blt.tup
          simp only [AV.cells] at cu
          simp only [isTuple] at tu
          clear htt ht8 ht
          repeat' (first | refine goS ?_ | refine go2 (fun hh => ?_) (fun hh => ?_) | fail)
          all_goals simp only [resV_def (X := dX cHG) Tryz.func109, Tryz.results109, resultsV, resultV, go_sem, *, Nat.reduceLT, Int.reduceEq, Int.reduceBEq, Int.reduceLE, Int.reduceLT, Nat.reduceAdd, Nat.reduceBEq, Nat.reduceEqDiff, reduceIte, Nat.reduceLeDiff, Nat.reduceMul, Nat.reduceSub, reduceCtorEq, frzRes, dFrz, frzCells, isRet_ret, tupleOf]
      · cases h
    · cases h
  · cases h
end Go.AM
set_option linter.unusedSimpArgs false
set_option linter.unusedVariables false
set_option linter.unusedSectionVars false
namespace Go.AM
open Go
variable [Keep]
def empB (b : Bx) : Bool := empS b.x || empS b.y
theorem bxI_emp {a b : Bx} (h : empB a = true) : empB (bxI a b) = true := by
  simp only [empB, bxI, Bool.or_eq_true] at h ⊢
  exact h.imp emp_inter emp_inter
theorem fold_emp : ∀ (l : List Bx) {x : Bx}, empB x = true → empB (l.foldl bxI x) = true := by
  intro l
  induction l with
  | nil => intro x h; exact h
  | cons y r ih => intro x h; exact ih (bxI_emp h)
theorem goB_fold : ∀ (l : List Bx) (x : Bx), l ≠ [] ∨ empB x = false → goB l x = if empB (l.foldl bxI x) then none else some (l.foldl bxI x) := by
  intro l
  induction l with
  | nil =>
    intro x h
    rcases h with h | h
    · exact absurd rfl h
    · simp [goB, h]
  | cons n r ih =>
    intro x _
    have e : goB (n :: r) x = if empB (bxI x n) then none else goB r (bxI x n) := rfl
    rw [e, List.foldl_cons]
    cases h : empB (bxI x n) with
    | true => simp [fold_emp r h]
    | false => simp only [Bool.false_eq_true, if_false]; exact ih _ (.inr h)
theorem bxI_same (n : Bx) : bxI n n = n := by
  obtain ⟨x, y⟩ := n
  have h : ∀ s : Sp, interS s s = s := fun s => Sp.ext2 (by simp [interS_lo]) (by simp [interS_hi])
  simp [bxI, h]
structure BdB (b : Bx) : Prop where
  a : -104 ≤ b.x.lo ∧ b.x.lo ≤ 104 ∧ -104 ≤ b.x.hi ∧ b.x.hi ≤ 104
  b : -104 ≤ b.y.lo ∧ b.y.lo ≤ 104 ∧ -104 ≤ b.y.hi ∧ b.y.hi ≤ 104
theorem bxI_wide {n : Bx} (h : BdB n) : bxI wideB n = n := by
  obtain ⟨x, y⟩ := n
  have h1 := h.a
  have h2 := h.b
  simp only at h1 h2
  have e1 : interS wideS x = x := interW (by omega) (by omega)
  have e2 : interS wideS y = y := interW (by omega) (by omega)
  show (⟨interS wideS x, interS wideS y⟩ : Bx) = _
  rw [e1, e2]
theorem bxI_bd {a b : Bx} (h : BdB a) (k : BdB b) : BdB (bxI a b) := by
  have h1 := h.a
  have h2 := h.b
  have k1 := k.a
  have k2 := k.b
  refine ⟨?_, ?_⟩ <;> simp only [bxI, interS_lo, interS_hi] <;> omega
theorem fold_bd : ∀ (l : List Bx) (x : Bx), (∀ y ∈ l, BdB y) → BdB x → BdB (l.foldl bxI x) := by
  intro l
  induction l with
  | nil => intro x _ h; exact h
  | cons y r ih => intro x hl h; exact ih _ (fun z hz => hl z (by simp [hz])) (bxI_bd h (hl y (by simp)))
theorem boxS_fold {l : List Bx} (hne : l ≠ []) (h : ∀ y ∈ l, BdB y) : (boxS l = if empB (l.foldl bxI wideB) then none else some (l.foldl bxI wideB)) ∧ BdB (l.foldl bxI wideB) := by
  cases l with
  | nil => exact absurd rfl hne
  | cons n r =>
    have hn := h n (by simp)
    have e : (n :: r).foldl bxI wideB = r.foldl bxI n := by rw [List.foldl_cons, bxI_wide hn]
    have e2 : (n :: r).foldl bxI n = r.foldl bxI n := by rw [List.foldl_cons, bxI_same]
    rw [e]
    refine ⟨?_, fold_bd r n (fun z hz => h z (by simp [hz])) hn⟩
    show goB (n :: r) n = _
    rw [goB_fold _ _ (.inl (by simp)), e2]
theorem ok20 {p : Pt} : okPt 20 p = true ↔ (-20 ≤ p.x ∧ p.x ≤ 20) ∧ (-20 ≤ p.y ∧ p.y ≤ 20) := by
  have e : w64 (-20) = -20 := rfl
  simp only [okPt, inB, e, Bool.and_eq_true, decide_eq_true_eq, ge_iff_le]
theorem nowB_bd {err : Int} {s p : Pt} (hs : okPt 20 s = true) (hp : okPt 80 p = true) (h0 : 0 ≤ err) (h4 : err ≤ 4) : BdB (nowB err s p) ∧ nowB err s p = ⟨⟨p.x - s.x - err, p.x - s.x + err⟩, ⟨p.y - s.y - err, p.y - s.y + err⟩⟩ := by
  have a := ok20.1 hs
  have b := ok80.1 hp
  have e1 : w64 (p.x - s.x) = p.x - s.x := wrap_small (by omega) (by omega)
  have e2 : w64 (p.y - s.y) = p.y - s.y := wrap_small (by omega) (by omega)
  have e3 : w64 (p.x - s.x - err) = p.x - s.x - err := wrap_small (by omega) (by omega)
  have e4 : w64 (p.x - s.x + err) = p.x - s.x + err := wrap_small (by omega) (by omega)
  have e5 : w64 (p.y - s.y - err) = p.y - s.y - err := wrap_small (by omega) (by omega)
  have e6 : w64 (p.y - s.y + err) = p.y - s.y + err := wrap_small (by omega) (by omega)
  have e : nowB err s p = ⟨⟨p.x - s.x - err, p.x - s.x + err⟩, ⟨p.y - s.y - err, p.y - s.y + err⟩⟩ := by
    unfold nowB
    rw [e1, e2, e3, e4, e5, e6]
  refine ⟨?_, e⟩
  rw [e]
  constructor <;> simp only <;> omega
theorem ords_ext (n : Nat) : ∀ (d : Nat) (p : List Nat), ordsL n d p = ext n d p := by
  intro d
  induction d with
  | zero => intro p; rfl
  | succ d ih =>
    intro p
    simp only [ordsL, ext, kidsTo]
    rw [List.flatMap_map]
    induction List.range n with
    | nil => rfl
    | cons i r ihr =>
      rw [List.flatMap_cons, ihr, List.filter_cons]
      cases h : p.contains i with
      | true => simp
      | false => simp [ih]
theorem ords_lev (n : Nat) : ordsL n n [] = lev n n := by
  have := lev_ext n n 0
  rw [Nat.zero_add] at this
  rw [this, ords_ext]
  show _ = [[]].flatMap (ext n n)
  simp
def addU (out : List Bx) (x : Bx) : List Bx := if out.any (fun y => bxEq y x) then out else out ++ [x]
theorem bxEq_iff {a b : Bx} : bxEq a b = true ↔ a = b := by
  obtain ⟨⟨a1, a2⟩, ⟨a3, a4⟩⟩ := a
  obtain ⟨⟨b1, b2⟩, ⟨b3, b4⟩⟩ := b
  simp only [bxEq, Bool.and_eq_true, beq_iff_eq, Bx.mk.injEq, Sp.mk.injEq]
theorem any_mem {out : List Bx} {x : Bx} : out.any (fun y => bxEq y x) = true ↔ x ∈ out := by
  rw [List.any_eq_true]
  constructor
  · rintro ⟨y, h1, h2⟩; rw [← bxEq_iff.1 h2]; exact h1
  · intro h; exact ⟨x, h, bxEq_iff.2 rfl⟩
theorem addU_mem {out : List Bx} {x y : Bx} : y ∈ addU out x ↔ y ∈ out ∨ y = x := by
  unfold addU
  split
  · rename_i h
    have := any_mem.1 h
    constructor
    · exact .inl
    · rintro (q | rfl)
      · exact q
      · exact this
  · simp
theorem dd_mem {y : Bx} : ∀ {l out : List Bx}, y ∈ l.foldl addU out ↔ y ∈ out ∨ y ∈ l := by
  intro l
  induction l with
  | nil => intro out; simp
  | cons x r ih =>
    intro out
    rw [List.foldl_cons, ih, addU_mem, List.mem_cons]
    simp only [or_assoc]
theorem dd_any (p : Bx → Bool) (l : List Bx) : (l.foldl addU []).any p = l.any p := by
  rw [Bool.eq_iff_iff, List.any_eq_true, List.any_eq_true]
  simp only [dd_mem, List.not_mem_nil, false_or]
theorem fold_filterMap {α β : Type} (f : α → Option β) (g : List β → β → List β) : ∀ (l : List α) (s : List β), l.foldl (fun s a => match f a with | none => s | some b => g s b) s = (l.filterMap f).foldl g s := by
  intro l
  induction l with
  | nil => intro s; rfl
  | cons a r ih =>
    intro s
    rw [List.foldl_cons, ih]
    cases h : f a <;> simp [h]
theorem refBx_fold (err : Int) (ss hs : List Pt) (t : Nat) (o : List Nat) (n : Nat) : refBx err ss hs t o n = ((List.range n).map (refNow err ss hs t o)).foldl bxI wideB := by
  unfold refBx
  rw [List.foldl_map]
section
variable {err : Int} {ss hs : List Pt} (h20 : ss.all (okPt 20) = true) (h80 : hs.all (okPt 80) = true) (h0 : 0 ≤ err) (h4 : err ≤ 4) (hn : 1 ≤ ss.length)
include h20 h80 h0 h4 hn
theorem now_ref {t : Nat} (ht : t < 8) (o : List Nat) (i : Nat) : BdB (refNow err ss hs t o i) ∧ refNow err ss hs t o i = nowB err (ss.getD i ⟨0, 0⟩) (turnP (t : Nat) (hs.getD (o.getD i 0) ⟨0, 0⟩)) := by
  have e : refNow err ss hs t o i = nowB err (ss.getD i ⟨0, 0⟩) (turnP (t : Nat) (hs.getD (o.getD i 0) ⟨0, 0⟩)) := by
    unfold refNow
    rw [turnP_R (by simp [inB]; omega)]
  refine ⟨?_, e⟩
  rw [e]
  have e1 : ∀ (f : Int) (l : List Pt) (i : Nat), l.all (okPt f) = true → okPt f ⟨0, 0⟩ = true → okPt f (l.getD i ⟨0, 0⟩) = true := by
    intro f l i h hf
    rw [List.getD]
    cases e : l[i]? with
    | none => exact hf
    | some p => exact List.all_eq_true.1 h p (List.mem_of_getElem? e)
  exact (nowB_bd (e1 20 ss i h20 (by decide)) (turn_ok ht (e1 80 hs _ h80 (by decide))) h0 h4).1
theorem boxOn_ref {t : Nat} (ht : t < 8) (o : List Nat) : boxOn err ss hs t o = (if empB (refBx err ss hs t o ss.length) then none else some (refBx err ss hs t o ss.length)) ∧ BdB (refBx err ss hs t o ss.length) := by
  have e : ((List.range ss.length).map fun i => nowB err (ss.getD i ⟨0, 0⟩) (turnP (t : Nat) (hs.getD (o.getD i 0) ⟨0, 0⟩))) = (List.range ss.length).map (refNow err ss hs t o) :=
    List.map_congr_left fun i _ => (now_ref h20 h80 h0 h4 hn ht o i).2.symm
  unfold boxOn
  rw [refBx_fold, e]
  refine boxS_fold (fun h => ?_) (fun y hy => ?_)
  · have := congrArg List.length h
    rw [List.length_map, List.length_range, List.length_nil] at this
    omega
  · obtain ⟨i, _, rfl⟩ := List.mem_map.1 hy
    exact (now_ref h20 h80 h0 h4 hn ht o i).1
theorem boxT_bd {t : Nat} (ht : t < 8) : ∀ y ∈ boxT err ss hs t, BdB y ∧ empB y = false := by
  intro y hy
  obtain ⟨o, _, ho⟩ := List.mem_filterMap.1 hy
  obtain ⟨h1, h2⟩ := boxOn_ref h20 h80 h0 h4 hn ht o
  rw [h1] at ho
  split at ho
  · cases ho
  · rename_i he
    cases ho
    exact ⟨h2, by simpa using he⟩
theorem boxL_bd : ∀ y ∈ boxL err ss hs, BdB y ∧ empB y = false := by
  intro y hy
  obtain ⟨t, ht, h⟩ := List.mem_flatMap.1 hy
  exact boxT_bd h20 h80 h0 h4 hn (List.mem_range.1 ht) y h
theorem refTo_dd {t : Nat} (ht : t < 8) (out : List Bx) : refTo err ss hs t (lev ss.length ss.length) out = (boxT err ss hs t).foldl addU out := by
  unfold refTo boxT
  rw [← fold_filterMap, ords_lev]
  congr 1
  funext out o
  rw [(boxOn_ref h20 h80 h0 h4 hn ht o).1]
  have e : addB out (refBx err ss hs t o ss.length) = if empB (refBx err ss hs t o ss.length) || out.any (fun y => bxEq y (refBx err ss hs t o ss.length)) then out else out ++ [refBx err ss hs t o ss.length] := rfl
  rw [e]
  cases empB (refBx err ss hs t o ss.length) <;> simp [addU]
theorem refBoxes_dd : refBoxes err ss hs 8 = (boxL err ss hs).foldl addU [] := by
  have : ∀ k, k ≤ 8 → refBoxes err ss hs k = ((List.range k).flatMap (boxT err ss hs)).foldl addU [] := by
    intro k
    induction k with
    | zero => intro _; rfl
    | succ k ih =>
      intro hk
      rw [refBoxes_succ, ih (by omega), refTo_dd h20 h80 h0 h4 hn (by omega), List.range_succ, List.flatMap_append, List.foldl_append]
      simp
  exact this 8 (Nat.le_refl _)
end
theorem suit_pts {ss hs : List Pt} {cx cy wx wy : Sp} {rs : List Rdg} {err : Int} (h : suitB (machB ss cx cy wx wy rs) ss hs err = true) : ss.all (okPt 20) = true ∧ hs.all (okPt 80) = true ∧ 0 ≤ err ∧ err ≤ 4 ∧ 1 ≤ ss.length := by
  obtain ⟨h1, h2, h3, h4, h5, h6⟩ := suit_small h
  unfold machB at h1
  simp only [Bool.and_eq_true, decide_eq_true_eq] at h1
  have h7 : allB ss 2 20 = true := by simp only [h1]
  unfold butB at h2
  simp only [Bool.and_eq_true, inB, decide_eq_true_eq] at h2
  have h8 := h2.1
  rw [allB_P] at h7 h8
  simp only [pointsB, Bool.and_eq_true] at h7 h8
  exact ⟨h7.1, h8.1, by omega, by omega, by omega⟩
structure HeldOk (m : Held) : Prop where
  b : 0 ≤ m.b ∧ m.b ≤ 12
  x : -104 ≤ m.x.lo ∧ m.x.lo ≤ 104 ∧ -104 ≤ m.x.hi ∧ m.x.hi ≤ 104
  y : -104 ≤ m.y.lo ∧ m.y.lo ≤ 104 ∧ -104 ≤ m.y.hi ∧ m.y.hi ≤ 104
theorem held_box {n : Nat} {y : Bx} (hn : n ≤ 12) (h : BdB y) : HeldOk ⟨n, y.x, y.y⟩ := ⟨by simp only; omega, h.a, h.b⟩
section
variable {st : List Pt} {cx cy wx wy : Sp} {rs : List Rdg} (h : machB st cx cy wx wy rs = true) {ms : List Held} (hm : ∀ m ∈ ms, HeldOk m)
include h hm
theorem good_xh : Good cx wx (ax0 cx wx rs ms).limits := by
  obtain ⟨a, b, c, d, e, f, g⟩ := good_x h
  refine ⟨a, b, c, d, e, f, fun m h' => ?_⟩
  rcases List.mem_append.1 h' with q | q
  · exact g m q
  · obtain ⟨k, hk, rfl⟩ := List.mem_map.1 q
    exact (hm k hk).x
theorem good_yh : Good cy wy (ax1 cy wy rs ms).limits := by
  obtain ⟨a, b, c, d, e, f, g⟩ := good_y h
  refine ⟨a, b, c, d, e, f, fun m h' => ?_⟩
  rcases List.mem_append.1 h' with q | q
  · exact g m q
  · obtain ⟨k, hk, rfl⟩ := List.mem_map.1 q
    exact (hm k hk).y
theorem held_blk : (marksOf rs ++ ms).all blkB = true := by
  refine List.all_eq_true.2 fun m h' => ?_
  rcases List.mem_append.1 h' with q | q
  · exact List.all_eq_true.1 (marks_blk h) m q
  · have := (hm m q).b
    simp [blkB, inB]
    omega
theorem held_pos : ∀ m ∈ marksOf rs ++ ms, 0 ≤ m.b := by
  intro m h'
  rcases List.mem_append.1 h' with q | q
  · exact marks_pos h m q
  · exact (hm m q).b.1
theorem axisXh : axisV ⟨cx, wx, []⟩ (ownS (·.x) (marksOf rs ++ ms) initS) = axO (boundsS (ax0 cx wx rs ms)) := by
  refine axis_ref (L := (ax0 cx wx rs ms).limits) (good_xh h hm) _ (by rw [ownS_len]; rfl) (fun k hk => ?_)
  rw [own_get _ k _ _ (by exact hk) (held_pos h hm), List.map_append, lims_155, init_get hk]
  rfl
theorem axisYh : axisV ⟨cy, wy, []⟩ (ownS (·.y) (marksOf rs ++ ms) initS) = axO (boundsS (ax1 cy wy rs ms)) := by
  refine axis_ref (L := (ax1 cy wy rs ms).limits) (good_yh h hm) _ (by rw [ownS_len]; rfl) (fun k hk => ?_)
  rw [own_get _ k _ _ (by exact hk) (held_pos h hm), List.map_append, lims_156, init_get hk]
  rfl
end
end Go.AM
set_option linter.unusedSectionVars false
set_option linter.unusedVariables false
set_option linter.unusedSimpArgs false
set_option maxRecDepth 100000
namespace Go.AM
open Go Go.Proofs
variable [Keep]
attribute [local irreducible] W WO WO1 WD WQ WT thenQ blockQ endR isRet retK Cl ClR
attribute [local irreducible] isNew roundQ RdR clR boundsS machB boxL suitB
structure MA where
  sa : AV
  ra : AV
  cx : Sp
  cy : Sp
  wx : Sp
  wy : Sp
  ps : sa.pur = true ∧ ra.pur = true
def machC : Cd MA where
  enc m := .agg [m.sa, .int .i64 m.cx.lo, .int .i64 m.cx.hi, .int .i64 m.cy.lo, .int .i64 m.cy.hi, .int .i64 m.wx.lo, .int .i64 m.wx.hi, .int .i64 m.wy.lo, .int .i64 m.wy.hi, m.ra]
  dec a := match a with
    | .agg [sa, .int .i64 a, .int .i64 b, .int .i64 c, .int .i64 d, .int .i64 e, .int .i64 f, .int .i64 g, .int .i64 h, ra] => if p : sa.pur = true ∧ ra.pur = true then some ⟨sa, ra, ⟨a, b⟩, ⟨c, d⟩, ⟨e, f⟩, ⟨g, h⟩, p⟩ else none
    | _ => none
  de m := by simp [m.ps]
  ed a x h := by
    split at h
    · split at h
      · cases h; rfl
      · cases h
    · cases h
  pur m := by simp [AV.pur, AV.purL, m.ps.1, m.ps.2]
def MA.stops (m : MA) : List Pt := (slV ptC m.sa).getD []
def MA.rdgs (m : MA) : List Rdg := (slV rdgC m.ra).getD []
def MA.ok (m : MA) : Bool := (slV ptC m.sa).isSome && (slV rdgC m.ra).isSome
theorem MA.ok_is {m : MA} (h : m.ok = true) : slV ptC m.sa = some m.stops ∧ slV rdgC m.ra = some m.rdgs := by
  unfold MA.ok at h
  simp only [Bool.and_eq_true, Option.isSome_iff_exists] at h
  obtain ⟨⟨a, ha⟩, ⟨b, hb⟩⟩ := h
  simp [MA.stops, MA.rdgs, ha, hb]
def MA.mach (m : MA) : Bool := machB m.stops m.cx m.cy m.wx m.wy m.rdgs
def MA.suit (m : MA) (hs : List Pt) (err : Int) : Bool := suitB m.mach m.stops hs err
def MA.poss (m : MA) : Bool := possB m.cx m.cy m.wx m.wy m.rdgs
def MA.could (m : MA) (hs : List Pt) (err : Int) : List Nat := couldN (fun n => (boxL err m.stops hs).any (canB m.cx m.cy m.wx m.wy m.rdgs n)) 12
theorem mach_idx {a : AV} {l : List MA} (h : slV machC a = some l) {k : Nat} {m : MA} (hp : l[k]? = some m) (hc : m.sa.cells.length = 1 ∧ m.ra.cells.length = 1) (H : Heap) : indexAddrV Tryz.prog H 103 a (.int .i64 ↑k) = some (.vptr [m.sa, .int .i64 m.cx.lo, .int .i64 m.cx.hi, .int .i64 m.cy.lo, .int .i64 m.cy.hi, .int .i64 m.wx.lo, .int .i64 m.wx.hi, .int .i64 m.wy.lo, .int .i64 m.wy.hi, m.ra]) :=
  (slV_is h).1.idx (x := machC.enc m) Tryz.underlying103 ty_lay51 (by simp [hp]) rfl
def whoN (hs : List Pt) (err : Int) (l : List MA) (k : Nat) : List Nat := (List.range k).filter fun i => match l[i]? with | some m => !(m.could hs err).isEmpty | none => false
theorem whoN_succ {hs : List Pt} {err : Int} {l : List MA} {k : Nat} {m : MA} (h : l[k]? = some m) : whoN hs err l (k + 1) = if (m.could hs err).isEmpty then whoN hs err l k else whoN hs err l k ++ [k] := by
  unfold whoN
  rw [List.range_succ, List.filter_append]
  cases q : (m.could hs err).isEmpty <;> simp [h, q]
theorem whoN_len (hs : List Pt) (err : Int) (l : List MA) (k : Nat) : (whoN hs err l k).length ≤ k := by
  unfold whoN
  have := List.length_filter_le (fun i => match l[i]? with | some m => !(m.could hs err).isEmpty | none => false) (List.range k)
  simpa using this
def whoE (hs : List Pt) (err : Int) (l : List MA) : List AV × List AV :=
  if (decide (1 ≤ l.length ∧ l.length ≤ 4) && l.all (fun m => m.suit hs err)) then (if l.all MA.poss then (natsV (whoN hs err l l.length), [.int .i64 0]) else ([], [.int .i64 7])) else ([], [.int .i64 2])
theorem whoE_flat (hs : List Pt) (err : Int) (l : List MA) : (∀ e ∈ (whoE hs err l).1, ∀ x ∈ e.cells, x.flat = true) ∧ ∀ x ∈ (whoE hs err l).2, x.flat = true := by
  unfold whoE
  split
  · split
    · exact ⟨natsV_flat _, by simp [AV.flat]⟩
    · simp [AV.flat]
  · simp [AV.flat]
def sp67 : List AV → Option (List AV × List AV)
  | [la, .agg [ha, .int .i64 err]] => match slV machC la, slV ptC ha with
    | some l, some hs => if l.all MA.ok = true then some (whoE hs err l) else none
    | _, _ => none
  | _ => none
theorem p67 : ∀ args el rest, sp67 args = some (el, rest) → (∀ e ∈ el, ∀ x ∈ e.cells, x.flat = true) ∧ ∀ x ∈ rest, x.flat = true := by
  intro args el rest h
  unfold sp67 at h
  split at h
  · split at h
    · split at h
      · have h := Option.some.inj h
        have e1 := congrArg Prod.fst h
        have e2 := congrArg Prod.snd h
        simp only at e1 e2
        rw [← e1, ← e2]
        exact whoE_flat _ _ _
      · cases h
    · cases h
  · cases h
theorem MA.cells {m : MA} (h : m.ok = true) : m.sa.cells = [m.sa] ∧ m.ra.cells = [m.ra] := by
  obtain ⟨h1, h2⟩ := MA.ok_is h
  exact ⟨(slV_is h1).1.cells, (slV_is h2).1.cells⟩
set_option maxHeartbeats 400000 in
theorem C176 (c : FuncId → Option (List AV → Heap → Option (AV × Heap))) (hc : c 176 = none) (a : AV) (l : List MA) (ha : slV machC a = some l) (hok : l.all MA.ok = true) (g : FuncId) (first capt : List AV) (pb : MA → Bool) (h : Heap)
    (hcall : ∀ p : MA, p ∈ l → Cl (dX c) g ((first ++ [machC.enc p]) ++ capt) h (.ret (.bool (pb p)) h none)) : Cl (dX c) 176 [a, .func (.func g) first capt] h (.ret (.int .i64 (idxOf pb l)) h none) := by
  refine ClR.cl ?_
  have hlen := sl_len ha
  have hout := sl_out ha
  have hmax := sl_max ha
  refine ClR.walk (c := _) hc Tryz.func176 rfl (by kernel_rfl) rfl (fun e => by cases e) ?_
  simp only [entryEnv, Nat.reduceAdd]
  repeat' (first | refine goS ?_ | refine go2 (fun hh => ?_) (fun hh => ?_) | fail)
  refine W.loopN l.length (fun k F => ∃ e, F = Fr.mk 176 false e .nil h [] none ∧ (l.take k).all (fun x => !pb x) = true ∧ e.get 0 = some a ∧ e.get 1 = some (.func (.func g) first capt) ∧ e.get 7 = some (.int .i64 ↑l.length) ∧ e.get 8 = some (.int .i64 ↑k) ∧ k ≤ l.length) ?_ ?_
  · refine ⟨_, rfl, ?_, ?_, ?_, ?_, ?_, ?_⟩ <;> simp [go_sem, *]
  rintro k F ⟨e, rfl, hall, h0, h1, h7, h8, hk⟩
  have HA := Lib.hid hall
  clear hall
  by_cases hlt : k < l.length
  · obtain ⟨p, hp⟩ := get_some hlt
    have hpo := List.all_eq_true.1 hok p (List.mem_of_getElem? hp)
    obtain ⟨c1, c2⟩ := MA.cells hpo
    have hix := mach_idx ha hp ⟨by rw [c1]; rfl, by rw [c2]; rfl⟩
    obtain ⟨q1, q2⟩ := MA.ok_is hpo
    have o1 := sl_out q1
    have o2 := sl_out q2
    obtain ⟨n1, t1⟩ := sl_one q1
    obtain ⟨n2, t2⟩ := sl_one q2
    have hcl := hcall p (List.mem_of_getElem? hp)
    have hd : decide ((k : Int) < (l.length : Int)) = true := by simpa using hlt
    have hw := wrap_succ hlt hmax
    have hnx := take_next hp
    have HI : pb p = true → idxOf pb l = k := idxOf_at HA.out hp
    have HH := Lib.hid HI
    clear ha hcall hp HI hok hpo q1 q2
    simp only [machC] at hcl
    simp only [AV.cells] at c1 c2
    repeat' (first | (apply U6; exact Z1; exact Z1; (focus (exact hcl)); simp only [pM, pN, rR, rP]) | refine go1 ?_ | refine go2 (fun hh => ?_) (fun hh => ?_) | fail)
    all_goals first
      | (refine ⟨hlt, _, rfl, ?_, ?_, ?_, ?_, ?_, by omega⟩
         · have := HA.out
           rw [hnx]; simp_all
         all_goals exact Z2)
      | (simp only [resV_def (X := dX c) Tryz.func176, Tryz.results176, resultsV, resultV, go_sem, *, Nat.reduceLT, Int.reduceEq, Int.reduceBEq, Int.reduceLE, Int.reduceLT, Nat.reduceAdd, Nat.reduceBEq, Nat.reduceEqDiff, reduceIte, Nat.reduceLeDiff, Nat.reduceMul, Nat.reduceSub, reduceCtorEq, frzRes, dFrz, frzCells, isRet_ret, tupleOf]
         have := HH.out hh
         simp [isR, frzRes, dX_frz, dFrz, this])
  · have hd : decide ((k : Int) < (l.length : Int)) = false := by simpa using hlt
    have hkl : k = l.length := by omega
    have h2 := HA.out
    rw [hkl, List.take_length] at h2
    have HI := Lib.hid (idxOf_none h2)
    clear ha hcall h2 hkl hok
    repeat' (first | refine goS ?_ | refine go2 (fun hh => ?_) (fun hh => ?_) | fail)
    all_goals simp only [resV_def (X := dX c) Tryz.func176, Tryz.results176, resultsV, resultV, go_sem, *, Nat.reduceLT, Int.reduceEq, Int.reduceBEq, Int.reduceLE, Int.reduceLT, Nat.reduceAdd, Nat.reduceBEq, Nat.reduceEqDiff, reduceIte, Nat.reduceLeDiff, Nat.reduceMul, Nat.reduceSub, reduceCtorEq, frzRes, dFrz, frzCells, isRet_ret, tupleOf]
    have := HI.out
    simp [isR, frzRes, dX_frz, dFrz, this]
theorem C133 (c : FuncId → Option (List AV → Heap → Option (AV × Heap))) (hc : c 176 = none) (hc2 : c 133 = none) (a : AV) (l : List MA) (ha : slV machC a = some l) (hok : l.all MA.ok = true) (g : FuncId) (first capt : List AV) (pb : MA → Bool) (h : Heap)
    (hcall : ∀ p : MA, p ∈ l → Cl (dX c) g ((first ++ [machC.enc p]) ++ capt) h (.ret (.bool (pb p)) h none)) : Cl (dX c) 133 [a, .func (.func g) first capt] h (.ret (.bool (l.any pb)) h none) := by
  refine ClR.cl ?_
  have hcl := C176 c hc a l ha hok g first capt pb h hcall
  have hout := sl_out ha
  have hb := idxOf_any pb l
  clear ha hcall hok
  refine ClR.walk (c := _) hc2 Tryz.func133 rfl (by kernel_rfl) rfl (fun e => by cases e) ?_
  simp only [entryEnv, Nat.reduceAdd]
  repeat' (first | (apply U6; exact Z1; exact Z1; (focus (exact hcl)); simp only [pM, pN, rR, rP]) | refine go1 ?_ | refine go2 (fun hh => ?_) (fun hh => ?_) | fail)
  all_goals simp only [resV_def (X := dX c) Tryz.func133, Tryz.results133, resultsV, resultV, go_sem, *, Nat.reduceLT, Int.reduceEq, Int.reduceBEq, Int.reduceLE, Int.reduceLT, Nat.reduceAdd, Nat.reduceBEq, Nat.reduceEqDiff, reduceIte, Nat.reduceLeDiff, Nat.reduceMul, Nat.reduceSub, reduceCtorEq, frzRes, dFrz, frzCells, isRet_ret, tupleOf]
  simp [isR, frzRes, dX_frz, dFrz, hb]
noncomputable def cHS : FuncId → Option (List AV → Heap → Option (AV × Heap))
  | 93 => some (pureFn sp93)
  | 112 => some (pureFn sp112)
  | 132 => some (newFn 1 sp132)
  | _ => none
theorem cHS_sound : Sound (dX cHS) := dX_sound (fun f g h => by
  unfold cHS at h
  split at h
  · cases h; exact F93
  · cases h; exact F112
  · cases h; exact F132
  · cases h)
set_option maxHeartbeats 1000000 in
theorem C134 (b : Nat) (m : MA) (hok : m.ok = true) (ha : AV) (hs : List Pt) (err : Int) (hh : slV ptC ha = some hs) (h : Heap) (hb : h.get b = some (.var [ha, .int .i64 err])) :
    Cl (dX cHS) 134 (([] ++ [machC.enc m]) ++ [.ptr b 0]) h (.ret (.bool (!m.suit hs err)) h none) := by
  refine ClR.cl ?_
  obtain ⟨c1, c2⟩ := MA.cells hok
  obtain ⟨q1, q2⟩ := MA.ok_is hok
  have o1 := sl_out q1
  have o2 := sl_out q2
  have o3 := sl_out hh
  obtain ⟨n1, t1⟩ := sl_one q1
  obtain ⟨n2, t2⟩ := sl_one q2
  obtain ⟨n3, t3⟩ := sl_one hh
  have k112 := fun hp => K112 (X := dX cHS) rfl m.sa m.ra ha m.stops hs m.rdgs m.cx m.cy m.wx m.wy err q1 q2 hh hp
  have e : suitB (machB m.stops m.cx m.cy m.wx m.wy m.rdgs) m.stops hs err = m.suit hs err := rfl
  rw [e] at k112
  generalize m.suit hs err = su at *
  obtain ⟨hn, hm⟩ := h
  simp only [hp_get] at hb
  simp only [AV.cells] at c1 c2
  simp only [machC, List.nil_append, List.cons_append]
  clear hh q1 q2 e hok
  refine ClR.walk (c := _) rfl Tryz.func134 rfl (by kernel_rfl) rfl (fun e => by cases e) ?_
  simp only [entryEnv, Nat.reduceAdd]
  repeat' (first | refine goS ?_ | (apply U6; exact Z1; exact Z1; (focus (simp only [List.nil_append, List.append_nil]; first | exact k112 _)); simp only [pM, pN, rR, rP]) | refine go2 (fun hh => ?_) (fun hh => ?_) | fail)
  all_goals simp only [resV_def (X := dX cHS) Tryz.func134, Tryz.results134, resultsV, resultV, go_sem, *, Nat.reduceLT, Int.reduceEq, Int.reduceBEq, Int.reduceLE, Int.reduceLT, Nat.reduceAdd, Nat.reduceBEq, Nat.reduceEqDiff, reduceIte, Nat.reduceLeDiff, Nat.reduceMul, Nat.reduceSub, reduceCtorEq, frzRes, dFrz, frzCells, isRet_ret, tupleOf]
  all_goals simp [isR, frzRes, dX_frz, dFrz]
set_option maxHeartbeats 2000000 in
theorem F67 : IntrFn Tryz.prog 67 (newFn 1 sp67) := by
  refine new_fn (X := dX cHS) cHS_sound p67 ?_
  intro args el rest h
  unfold sp67 at h
  split at h
  · rename_i la ha err
    split at h
    · rename_i l hs hl hh
      split at h
      · rename_i hok
        have h := Option.some.inj h
        have e1 := congrArg Prod.fst h
        have e2 := congrArg Prod.snd h
        simp only at e1 e2
        rw [← e1, ← e2]
        clear h e1 e2
        have o1 := sl_out hl
        have ln := sl_len hl
        have hmax := sl_max hl
        have o3 := sl_out hh
        obtain ⟨n3, t3⟩ := sl_one hh
        obtain ⟨n1, t1⟩ := sl_one hl
        have hin : inB (l.length : Int) 1 4 = decide (1 ≤ l.length ∧ l.length ≤ 4) := by
          unfold inB
          rw [Bool.eq_iff_iff]
          simp
          omega
        have k93 := fun h => K93 (X := dX cHS) rfl (l.length : Int) 1 4 h
        rw [hin] at k93
        have hcl := fun hm => C133 cHS rfl rfl la l hl hok 134 [] [.ptr 0 0] (fun m => !m.suit hs err) ⟨1, hm⟩
        have hcl1 : ∀ hm : Mp Blk, hm.get 0 = some (.var [ha, .int .i64 err]) → Cl (dX cHS) 133 [la, .func (.func 134) [] [.ptr 0 0]] ⟨1, hm⟩ (.ret (.bool (l.any fun m => !m.suit hs err)) ⟨1, hm⟩ none) :=
          fun hm hg => hcl hm (fun p hp => C134 0 p (List.all_eq_true.1 hok p hp) ha hs err hh _ hg)
        have HCL := Lib.hid hcl1
        have HL := Lib.hid hl
        have HH := Lib.hid hh
        have HOK := Lib.hid hok
        have hwe : whoE hs err l = if (decide (1 ≤ l.length ∧ l.length ≤ 4) && !(l.any fun m => !m.suit hs err)) then (if l.all MA.poss then (natsV (whoN hs err l l.length), [.int .i64 0]) else ([], [.int .i64 7])) else ([], [.int .i64 2]) := by
          unfold whoE
          rw [List.any_eq_not_all_not]
          simp
        rw [hwe]
        have HANY := Lib.hid (show ∀ p ∈ l, (l.any fun m => !m.suit hs err) = false → p.suit hs err = true by
          intro p hp hq
          rw [List.any_eq_false] at hq
          simpa using hq p hp)
        generalize (l.any fun m => !m.suit hs err) = an at *
        clear hcl hcl1 hl hh hok hwe hin
        refine ClR.walk (c := _) rfl Tryz.func67 rfl (by kernel_rfl) rfl isNew_fail ?_
        simp only [entryEnv, Nat.reduceAdd, emptyHp]
        have hcase : (decide (1 ≤ l.length ∧ l.length ≤ 4) = false) ∨ (decide (1 ≤ l.length ∧ l.length ≤ 4) = true ∧ an = true) ∨ (decide (1 ≤ l.length ∧ l.length ≤ 4) = true ∧ an = false) := by cases decide (1 ≤ l.length ∧ l.length ≤ 4) <;> cases an <;> simp
        have hcl := HCL.out _ (show (Mp.set .nil 0 (.var [ha, .int .i64 err])).get 0 = _ from rfl)
        rcases hcase with q1 | ⟨q1, q2⟩ | ⟨q1, q2⟩
        · rw [q1] at k93 ⊢
          have k93 := k93
          clear hcl q1
          repeat' (first | refine goS ?_ | (apply U6; exact Z1; exact Z1; (focus (simp only [List.nil_append, List.append_nil]; first | exact k93 _)); simp only [pM, pN, rR, rP]) | refine go2 (fun hh => ?_) (fun hh => ?_) | fail)
          all_goals simp only [resV_def (X := dX cHS) Tryz.func67, Tryz.results67, resultsV, resultV, go_sem, *, Nat.reduceLT, Int.reduceEq, Int.reduceBEq, Int.reduceLE, Int.reduceLT, Nat.reduceAdd, Nat.reduceBEq, Nat.reduceEqDiff, reduceIte, Nat.reduceLeDiff, Nat.reduceMul, Nat.reduceSub, reduceCtorEq, frzRes, dFrz, frzCells, isRet_ret, tupleOf]
          exact isNew_mk Blt.nil
        · rw [q1] at k93 ⊢
          subst q2
          clear q1
          repeat' (first | (apply U6; exact Z1; exact Z1; (focus (exact hcl)); simp only [pM, pN, rR, rP]) | refine go1 ?_ | (apply U6; exact Z1; exact Z1; (focus (simp only [List.nil_append, List.append_nil]; first | exact k93 _)); simp only [pM, pN, rR, rP]) | refine go2 (fun hh => ?_) (fun hh => ?_) | fail)
          all_goals simp only [resV_def (X := dX cHS) Tryz.func67, Tryz.results67, resultsV, resultV, go_sem, *, Nat.reduceLT, Int.reduceEq, Int.reduceBEq, Int.reduceLE, Int.reduceLT, Nat.reduceAdd, Nat.reduceBEq, Nat.reduceEqDiff, reduceIte, Nat.reduceLeDiff, Nat.reduceMul, Nat.reduceSub, reduceCtorEq, frzRes, dFrz, frzCells, isRet_ret, tupleOf]
          exact isNew_mk Blt.nil
        · have hl4 : l.length ≤ 4 := by simp only [decide_eq_true_eq] at q1; exact q1.2
          rw [q1] at k93 ⊢
          subst q2
          clear q1
          repeat' (first | (apply U6; exact Z1; exact Z1; (focus (exact hcl)); simp only [pM, pN, rR, rP]) | refine go1 ?_ | (apply U6; exact Z1; exact Z1; (focus (simp only [List.nil_append, List.append_nil]; first | exact k93 _)); simp only [pM, pN, rR, rP]) | refine go2 (fun hh => ?_) (fun hh => ?_) | fail)
          simp only [Bool.not_false, Bool.and_self, if_true]
          clear hcl k93
          refine W.loopN l.length (fun k F => ∃ e lm hp u, F = Fr.mk 67 false e lm hp [] none ∧ hp.get 0 = some (.var [ha, .int .i64 err]) ∧ 0 < hp.next ∧ Blt hp u 1 (natsV (whoN hs err l k)) ∧ (l.take k).all MA.poss = true ∧ e.get 3 = some (.ptr 0 0) ∧ e.get 6 = some u ∧ e.get 20 = some la ∧ e.get 21 = some (.int .i64 ↑l.length) ∧ e.get 22 = some (.int .i64 ↑k) ∧ k ≤ l.length) ?_ ?_
          · refine ⟨_, _, _, .nilslice, rfl, rfl, by simp only; omega, Blt.nil, by simp, ?_, ?_, ?_, ?_, ?_, ?_⟩ <;> first | exact Z2 | simp [go_sem, *]
          rintro k F ⟨e, lm, ⟨qn, qm⟩, u, rfl, g0, hqn, hbu, hall, h3, h6, h20, h21, h22, hk⟩
          have HALL := Lib.hid hall
          have ou := hbu.out
          have cu := hbu.cells
          have tu := hbu.tup
          simp only [AV.cells] at cu
          simp only [isTuple] at tu
          clear hall
          by_cases hlt : k < l.length
          · obtain ⟨m, hm⟩ := get_some hlt
            have hmem := List.mem_of_getElem? hm
            have hmo := List.all_eq_true.1 HOK.out m hmem
            obtain ⟨c1, c2⟩ := MA.cells hmo
            obtain ⟨q1, q2⟩ := MA.ok_is hmo
            have hix := fun h => mach_idx HL.out hm ⟨by rw [c1]; rfl, by rw [c2]; rfl⟩ h
            have p1 := sl_out q1
            have p2 := sl_out q2
            obtain ⟨n4, t4⟩ := sl_one q1
            obtain ⟨n5, t5⟩ := sl_one q2
            have hd : decide ((k : Int) < (l.length : Int)) = true := by simpa using hlt
            have hw := wrap_succ hlt hmax
            obtain ⟨v, ⟨zn, zm⟩, hc132, hbv, hx⟩ := K132 (X := dX cHS) rfl m.sa m.ra ha m.stops hs m.rdgs m.cx m.cy m.wx m.wy err ⟨qn, qm⟩ (.of q1 _) (.of q2 _) (.of HH.out _) (HANY.out m hmem rfl)
            have ep : possB m.cx m.cy m.wx m.wy m.rdgs = m.poss := rfl
            have ec : couldN (fun n => (boxL err m.stops hs).any (canB m.cx m.cy m.wx m.wy m.rdgs n)) 12 = m.could hs err := rfl
            rw [ep] at hc132 hbv
            rw [ec] at hbv
            have ov := hbv.out
            have cv := hbv.cells
            have tv := hbv.tup
            simp only [AV.cells] at cv c1 c2
            simp only [isTuple] at tv
            have G0 := Lib.hid g0
            have HM := Lib.hid hm
            have HX := Lib.hid hx
            simp only [hp_get] at g0
            cases hp : m.poss with
            | false =>
              rw [hp] at hc132
              have hno : l.all MA.poss = false := by
                rw [Bool.eq_false_iff]
                intro q
                have := List.all_eq_true.1 q m hmem
                rw [hp] at this
                cases this
              have HNO := Lib.hid hno
              clear hno hmem hmo q1 q2 hm hx hbv ep ec hbu hp
              repeat' (first | (apply U6; exact Z1; exact Z1; (focus (exact hc132)); simp only [pM, pN, rR, rP]) | refine go1 ?_ | refine go2 (fun hh => ?_) (fun hh => ?_) | fail)
              all_goals simp only [resV_def (X := dX cHS) Tryz.func67, Tryz.results67, resultsV, resultV, go_sem, *, Nat.reduceLT, Int.reduceEq, Int.reduceBEq, Int.reduceLE, Int.reduceLT, Nat.reduceAdd, Nat.reduceBEq, Nat.reduceEqDiff, reduceIte, Nat.reduceLeDiff, Nat.reduceMul, Nat.reduceSub, reduceCtorEq, frzRes, dFrz, frzCells, isRet_ret, tupleOf]
              rw [HNO.out]
              exact isNew_mk Blt.nil
            | true =>
              rw [hp] at hc132 hbv
              simp only [if_true] at hbv
              have lv := hbv.len
              rw [natsV_len] at lv
              have hbl := hbu.ext hx
              have hal : (l.take (k + 1)).all MA.poss = true := by
                rw [List.take_add_one, HM.out, List.all_append, HALL.out]
                simp [hp]
              have HAL := Lib.hid hal
              have z0 := (hx.2 0 hqn).trans G0.out
              have hzn := Nat.lt_of_lt_of_le hqn hx.1
              have hsucc := whoN_succ (hs := hs) (err := err) hm
              cases hem : (m.could hs err).isEmpty with
              | true =>
                have hd2 : decide (((m.could hs err).length : Int) > 0) = false := by
                  rw [List.isEmpty_iff.1 hem]; rfl
                rw [hem, if_pos rfl] at hsucc
                have HS := Lib.hid hsucc
                have HBL := Lib.hid hbl
                have HZ0 := Lib.hid z0
                have HZN := Lib.hid hzn
                clear hmem hmo q1 q2 hm hx hbv ep ec hbu hp hal hbl z0 hzn hsucc hem
                repeat' (first | (apply U6; exact Z1; exact Z1; (focus (exact hc132)); simp only [pM, pN, rR, rP]) | refine go1 ?_ | refine go2 (fun hh => ?_) (fun hh => ?_) | fail)
                refine ⟨hlt, _, _, _, u, rfl, HZ0.out, HZN.out, ?_, HAL.out, ?_, ?_, ?_, ?_, ?_, by omega⟩
                · rw [HS.out]; exact HBL.out
                all_goals exact Z2
              | false =>
                have hd2 : decide (((m.could hs err).length : Int) > 0) = true := by
                  have : (m.could hs err) ≠ [] := fun q => by rw [q] at hem; cases hem
                  have := List.length_pos_iff.2 this
                  simp only [decide_eq_true_eq]; omega
                rw [hem, if_neg (by simp)] at hsucc
                have hll : (whoN hs err l k).length + (0 + 1) ≤ most := by
                  have := whoN_len hs err l k
                  unfold most; omega
                have HS := Lib.hid hsucc
                have HBL := Lib.hid hbl
                have HZ0 := Lib.hid z0
                have HZN := Lib.hid hzn
                clear hmem hmo q1 q2 hm hx hbv ep ec hbu hp hal z0 hzn hsucc hem
                repeat' (first | (apply U6; exact Z1; exact Z1; (focus (exact hc132)); simp only [pM, pN, rR, rP]) | (apply WO1.appendE (t := 39) (u := 39) (e := 3) (e' := 3) (sz := 1) (tl := []) (hb := hbl); exact Z1; exact rfl; exact Z2; exact Z2; exact Z2; (focus (exact ty_row39)); exact Z1; (focus (intro v hv; simp at hv; subst hv; rfl)); (focus (simp only [natsV_len, List.length_cons, List.length_nil]; exact hll)); (focus (simp)); (intro v2 hp2 hB2 ho2 hK2 hE2; have hc2 := hB2.cells; have ht2 := hB2.tup; simp only [AV.cells] at hc2; simp only [isTuple] at ht2; simp only [pM, pN])) | refine go1 ?_ | refine go2 (fun hh => ?_) (fun hh => ?_) | fail)
                refine ⟨hlt, _, _, hp2, v2, rfl, ?_, Nat.lt_of_lt_of_le HZN.out hK2.1, ?_, HAL.out, ?_, ?_, ?_, ?_, ?_, by omega⟩
                · exact (hK2.2 0 HZN.out (HBL.out.ne_row (fun z r e => by rw [HZ0.out] at e; cases e))).trans HZ0.out
                · rw [HS.out]
                  have e4 : natsV (whoN hs err l k ++ [k]) = natsV (whoN hs err l k) ++ [.int .i64 (k : Int)] := by simp [natsV]
                  rw [e4]; exact hB2
                all_goals exact Z2
          · have hd : decide ((k : Int) < (l.length : Int)) = false := by simpa using hlt
            have hkl : k = l.length := by omega
            have hall := HALL.out
            rw [hkl, List.take_length] at hall
            rw [hkl] at hbu
            have HB := Lib.hid hbu
            have HA2 := Lib.hid hall
            clear hbu hall hlt hk g0 hkl
            repeat' (first | refine goS ?_ | refine go2 (fun hh => ?_) (fun hh => ?_) | fail)
            all_goals simp only [resV_def (X := dX cHS) Tryz.func67, Tryz.results67, resultsV, resultV, go_sem, *, Nat.reduceLT, Int.reduceEq, Int.reduceBEq, Int.reduceLE, Int.reduceLT, Nat.reduceAdd, Nat.reduceBEq, Nat.reduceEqDiff, reduceIte, Nat.reduceLeDiff, Nat.reduceMul, Nat.reduceSub, reduceCtorEq, frzRes, dFrz, frzCells, isRet_ret, tupleOf]
            rw [HA2.out]
            exact isNew_mk HB.out
      · cases h
    · cases h
  · cases h
theorem K67 {X : Ctx} (hX : X.intr 67 = some (newFn 1 sp67)) (la ha : AV) (l : List MA) (hs : List Pt) (err : Int) (h : Heap) (hl : SeeV h machC la l) (hok : l.all MA.ok = true) (hh : SeeV h ptC ha hs) (okA poA : Bool) (w : List Nat)
    (e1 : (decide (1 ≤ l.length ∧ l.length ≤ 4) && l.all (fun m => m.suit hs err)) = okA) (e2 : l.all MA.poss = poA) (e3 : whoN hs err l l.length = w) :
    ∃ v h', Cl X 67 [la, .agg [ha, .int .i64 err]] h (.ret (.tuple [v, .int .i64 (if okA then (if poA then 0 else 7) else 2)]) h' none) ∧ Blt h' v 1 (if okA && poA then natsV w else []) ∧ HExt h h' := by
  obtain ⟨la', v1, s1⟩ := hl
  obtain ⟨ha', v3, s3⟩ := hh
  have hlD : viewD h la = some la' := by
    cases la <;> first | exact v1 | (simp [viewV] at v1; cases v1; cases s1) | skip
    all_goals (unfold viewV at v1; simp only at v1; split at v1 <;> first | (cases v1; cases s1) | cases v1)
  have hv : viewDs h [la, .agg [ha, .int .i64 err]] = some [la', .agg [ha', .int .i64 err]] := by
    simp only [viewDs, hlD, viewD_but v3]
  have hs : sp67 [la', .agg [ha', .int .i64 err]] = some (if okA && poA then natsV w else [], [.int .i64 (if okA then (if poA then 0 else 7) else 2)]) := by
    simp only [sp67, s1, s3, hok, if_true, whoE, e1, e2, e3]
    cases okA <;> cases poA <;> rfl
  exact Cl.new hX hv hs
end Go.AM
