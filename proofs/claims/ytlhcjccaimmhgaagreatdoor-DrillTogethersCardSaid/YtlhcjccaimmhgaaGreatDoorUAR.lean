/-
  A part of the proof: contracts of functions.
-/
import Derived.Test.YtlhcjccaimmhgaaGreatDoorUAQ
import Derived.Test.YtlhcjccaimmhgaaGreatDoorUAP
import Derived.Test.YtlhcjccaimmhgaaGreatDoorUAK
import Derived.Test.YtlhcjccaimmhgaaGreatDoorUAN
set_option linter.unusedSectionVars false
set_option linter.unusedVariables false
set_option linter.unusedSimpArgs false
set_option maxRecDepth 100000
namespace Go.AM
open Go Go.Proofs
variable [Keep]
attribute [local irreducible] W WO WO1 WD WQ WT thenQ blockQ endR isRet retK Cl ClR
attribute [local irreducible] roundQ RdR clR boundsS machB boxL suitB ordsR lev
def wideB : Bx := ⟨wideS, wideS⟩
def bxI (a b : Bx) : Bx := ⟨interS a.x b.x, interS a.y b.y⟩
def bxEq (a b : Bx) : Bool := (a.x.lo == b.x.lo && a.x.hi == b.x.hi) && (a.y.lo == b.y.lo && a.y.hi == b.y.hi)
def refNow (err : Int) (ss hs : List Pt) (t : Nat) (o : List Nat) (i : Nat) : Bx := nowB err (ss.getD i ⟨0, 0⟩) (turnR (hs.getD (o.getD i 0) ⟨0, 0⟩) (t : Nat))
def refBx (err : Int) (ss hs : List Pt) (t : Nat) (o : List Nat) (n : Nat) : Bx := (List.range n).foldl (fun x i => bxI x (refNow err ss hs t o i)) wideB
def addB (out : List Bx) (x : Bx) : List Bx := if empS x.x || empS x.y || out.any (fun y => bxEq y x) then out else out ++ [x]
def refTo (err : Int) (ss hs : List Pt) (t : Nat) (os : List (List Nat)) (out : List Bx) : List Bx := os.foldl (fun out o => addB out (refBx err ss hs t o ss.length)) out
def refBoxes (err : Int) (ss hs : List Pt) (k : Nat) : List Bx := (List.range k).foldl (fun out t => refTo err ss hs t (lev ss.length ss.length) out) []
def markE (b : Bx) : AV := .agg [.int .i64 0, .int .i64 b.x.lo, .int .i64 b.x.hi, .int .i64 b.y.lo, .int .i64 b.y.hi]
theorem addB_len (out : List Bx) (x : Bx) : (addB out x).length ≤ out.length + 1 := by
 unfold addB
 split <;> simp
theorem refBx_succ (err : Int) (ss hs : List Pt) (t : Nat) (o : List Nat) (n : Nat) : refBx err ss hs t o (n + 1) = bxI (refBx err ss hs t o n) (refNow err ss hs t o n) := by
 unfold refBx
 rw [List.range_succ, List.foldl_append]
 rfl
theorem refTo_next {err : Int} {ss hs : List Pt} {t : Nat} {os : List (List Nat)} {out : List Bx} {k : Nat} {p : List Nat} (h : os[k]? = some p) : refTo err ss hs t (os.take (k + 1)) out = addB (refTo err ss hs t (os.take k) out) (refBx err ss hs t p ss.length) := by
 unfold refTo
 rw [take_next h, List.foldl_append]
 rfl
theorem refBoxes_succ (err : Int) (ss hs : List Pt) (k : Nat) : refBoxes err ss hs (k + 1) = refTo err ss hs k (lev ss.length ss.length) (refBoxes err ss hs k) := by
 unfold refBoxes
 rw [List.range_succ, List.foldl_append]
 rfl
theorem any_take {α : Type} {l : List α} {j : Nat} {y : α} (f : α → Bool) (h : l[j]? = some y) : (l.take (j + 1)).any f = ((l.take j).any f || f y) := by
 rw [take_next h, List.any_append]
 simp
def sp109 : List AV → Option AV
 | [.agg [sa, .int .i64 cxl, .int .i64 cxh, .int .i64 cyl, .int .i64 cyh, .int .i64 wxl, .int .i64 wxh, .int .i64 wyl, .int .i64 wyh, ra], .agg [ha, .int .i64 err]] => match slV ptC sa, slV rdgC ra, slV ptC ha with
  | some ss, some rs, some hs => if (decide (hs.length = ss.length) && decide (1 ≤ ss.length) && decide (ss.length ≤ 4)) = true then some (slN ((refBoxes err ss hs 8).map markE)) else none
  | _, _, _ => none
 | _ => none
theorem markE_pur (l : List Bx) : ∀ a ∈ l.map markE, a.pur = true := by
 intro a ha
 obtain ⟨k, _, rfl⟩ := List.mem_map.1 ha
 rfl
theorem p109 : ∀ args v, sp109 args = some v → v.pur = true := by
 intro args v h
 unfold sp109 at h
 split at h
 ·split at h
  ·split at h
   ·have h := Option.some.inj h
    subst h
    exact slN_pur (markE_pur _)
   ·cases h
  ·cases h
 ·cases h
noncomputable def cHG : Itr
 | 81 => some (pureFn sp81)
 | 158 => some (pureFn sp158)
 | _ => none
theorem cHG_sound : Sound (dX cHG) := dX_sound (fun f g h => by
 unfold cHG at h
 split at h
 ·cases h; exact F81
 ·cases h; exact F158
 ·cases h)
theorem mark_row {H : Heap} {u : AV} {l : List Bx} {j : Nat} {y : Bx} (b : Blt H u 5 (l.map markE)) (h : l[j]? = some y) : ∃ id, indexAddrV Tryz.prog H 156 u (.int .i64 ↑j) = some (.eptr id 5 j 0) ∧ H.get id = some (.rw 5 (l.map markE)) ∧ (l.map markE)[j]? = some (.agg [.int .i64 0, .int .i64 y.x.lo, .int .i64 y.x.hi, .int .i64 y.y.lo, .int .i64 y.y.hi]) := by
 have hj : j < (l.map markE).length := by
  rw [List.length_map]
  rcases Nat.lt_or_ge j l.length with q | q
  ·exact q
  ·rw [List.getElem?_eq_none q] at h; cases h
 obtain ⟨id, e1, e2⟩ := b.idx (P := Tryz.prog) (t := 156) (e := 181) (ag := true) Tryz.underlying156 ty_lay181 hj
 exact ⟨id, e1, e2, by simp [h, markE]⟩
set_option maxHeartbeats 8000000 in
theorem F109 : IntrFn Tryz.prog 109 (pureFn sp109) := by
 refine pure_fn (X := dX cHG) cHG_sound p109 ?_
 intro args v h
 unfold sp109 at h
 split at h
 ·rename_i sa cxl cxh cyl cyh wxl wxh wyl wyh ra ha err
  split at h
  ·rename_i ss rs hs hl hr hh
   split at h
   ·rename_i hc
    have h := Option.some.inj h
    subst h
    simp only [Bool.and_eq_true, decide_eq_true_eq] at hc
    obtain ⟨⟨hsl, hn1⟩, hn4⟩ := hc
    have o1 := sl_out hh
    have o2 := sl_out hl
    have o3 := sl_out hr
    have l1 := sl_len hh
    have l2 := sl_len hl
    rw [hsl] at l1
    obtain ⟨one1, t1⟩ := sl_one hh
    obtain ⟨one2, t2⟩ := sl_one hl
    obtain ⟨one3, t3⟩ := sl_one hr
    have hcl0 := C129 cHG rfl ss.length hn1 hn4 ⟨0, .nil⟩
    unfold ClR at hcl0
    obtain ⟨rr, hcl, hcr⟩ := hcl0
    unfold ordsR at hcr
    obtain ⟨es, hz, rfl, hzx, hel⟩ := hcr
    have hes : es.length ≤ 256 := by
     have h1 := hel.1
     have h2 := lev_small hn4 ss.length hn4
     have h3 : 4 ^ ss.length ≤ 4 ^ 4 := Nat.pow_le_pow_right (by omega) hn4
     omega
    have HEL := Lib.hid hel
    have HES := Lib.hid hes
    have HL := Lib.hid hl
    have HH := Lib.hid hh
    have HSL := Lib.hid hsl
    have HN1 := Lib.hid hn1
    have HN4 := Lib.hid hn4
    generalize hres : refBoxes err ss hs 8 = res
    have HRES := Lib.hid hres
    clear hl hr hh hsl hn1 hn4 hzx hel hes hres
    refine ClR.walk (c := _) rfl Tryz.func109 rfl (by kernel_rfl) rfl isRet_fail ?_
    simp only [entryEnv, Nat.reduceAdd, emptyHp]
    repeat' (first | (apply U6; exact Z1; exact Z1; (focus (exact hcl)); simp only [pM, pN, rR, rP]) | refine go1 ?_ | refine go2 (fun hh => ?_) (fun hh => ?_) | fail)
    refine W.loopN 8 (fun t F => ∃ e lm hp u out, F = Fr.mk 109 false e lm hp [] none ∧ HExt hz hp ∧ BltN hz.next hp u 5 (out.map markE) ∧ out = refBoxes err ss hs t ∧ out.length ≤ 256 * t ∧
     lm.get 2 = some (0, [sa, .int .i64 cxl, .int .i64 cxh, .int .i64 cyl, .int .i64 cyh, .int .i64 wxl, .int .i64 wxh, .int .i64 wyl, .int .i64 wyh, ra]) ∧ lm.get 3 = some (0, [ha, .int .i64 err]) ∧ e.get 2 = some (.lptr 2 0 0) ∧ e.get 3 = some (.lptr 3 0 0) ∧ e.get 5 = some u ∧ e.get 6 = some (.vslice es) ∧ e.get 7 = some (.int .i64 ↑t) ∧ t ≤ 8) ?_ ?_
    ·refine ⟨_, _, hz, .nilslice, [], rfl, HExt.refl hz, BltN.nil, rfl, by simp, ?_, ?_, ?_, ?_, ?_, ?_, ?_, ?_⟩ <;> first | exact Z2 | simp [go_sem, *]
    clear hcl
    rintro t F ⟨e, lm, hp, u, out, rfl, hxe, hbu, hot, hol, m2, m3, h2, h3, h5, h6, h7, ht⟩
    have HXE := Lib.hid hxe
    have HBU := Lib.hid hbu
    have HOT := Lib.hid hot
    have HOL := Lib.hid hol
    clear hot hol hxe hbu
    by_cases ht8 : t < 8
    ·have hd : decide ((t : Int) < 8) = true := by simp; omega
     have hw := wrap_succ (m := 8) ht8 (by unfold maxL; omega)
     have HU5 := Lib.hid h5
     have ou := HBU.out.blt.out
     have HXE0 := HXE
     have HBU0 := HBU
     clear HXE HBU
     repeat' (first | refine goS ?_ | refine go2 (fun hh => ?_) (fun hh => ?_) | fail)
     refine W.loopN es.length (fun k F => ∃ e lm hp u o2, F = Fr.mk 109 false e lm hp [] none ∧ HExt hz hp ∧ BltN hz.next hp u 5 (o2.map markE) ∧ o2 = refTo err ss hs t ((lev ss.length ss.length).take k) out ∧ o2.length ≤ 256 * t + k ∧
      lm.get 2 = some (0, [sa, .int .i64 cxl, .int .i64 cxh, .int .i64 cyl, .int .i64 cyh, .int .i64 wxl, .int .i64 wxh, .int .i64 wyl, .int .i64 wyh, ra]) ∧ lm.get 3 = some (0, [ha, .int .i64 err]) ∧ e.get 2 = some (.lptr 2 0 0) ∧ e.get 3 = some (.lptr 3 0 0) ∧ e.get 5 = some u ∧ e.get 6 = some (.vslice es) ∧ e.get 7 = some (.int .i64 ↑t) ∧ e.get 8 = some (.int .i64 ↑k) ∧ k ≤ es.length) ?_ ?_
     ·refine ⟨_, _, hp, u, out, rfl, HXE0.out, HBU0.out, rfl, by have := HOL.out; omega, ?_, ?_, ?_, ?_, ?_, ?_, ?_, ?_, ?_⟩ <;> first | exact Z2 | simp [go_sem, *]
     clear m2 m3 h2 h3 h5 h6 h7 hd HXE0 HBU0 ou HU5
     rintro k F ⟨e, lm, hp, u, o2, rfl, hxe, hbu, hot2, hol2, m2, m3, h2, h3, h5, h6, h7, h8, hk⟩
     have HXE := Lib.hid hxe
     have HBU := Lib.hid hbu
     have HOT2 := Lib.hid hot2
     have HOL2 := Lib.hid hol2
     have ou := hbu.blt.out
     have lu := hbu.blt.len
     have tu := hbu.blt.tup
     simp only [isTuple] at tu
     rw [List.length_map] at lu
     clear hot2 hol2 hxe hbu
     by_cases hkl : k < es.length
     ·have hd : decide ((k : Int) < (es.length : Int)) = true := by simpa using hkl
      have hw2 := wrap_succ (m := es.length) hkl (by have := HES.out; unfold maxL; omega)
      obtain ⟨r, hr⟩ := get_some hkl
      obtain ⟨p, hp'⟩ := get_some (show k < (lev ss.length ss.length).length by rw [← HEL.out.1]; exact hkl)
      have hBr : Blt hp r 1 (natsV p) := (HEL.out.2 k r p hr hp').ext HXE.out
      have hpm := List.mem_of_getElem? hp'
      have hpl : p.length = ss.length := lev_len _ p hpm
      have hpn : ∀ k ∈ p, k < ss.length := (lev_ord (p := p) _ p hpm).2
      have hix : indexAddrV Tryz.prog hp 194 (.vslice es) (.int .i64 ↑k) = some (.vptr [r]) := by
       have : idxV (.int .i64 (k : Int)) es.length = some k := by simp [idxV, hkl]
       simp only [indexAddrV, Tryz.underlying194, ty_lay39, this, hr, hBr.cells, List.length_cons, List.length_nil, Nat.zero_add, if_true]
      have cr := hBr.cells
      have orr := hBr.out
      have tr := hBr.tup
      simp only [AV.cells] at cr
      simp only [isTuple] at tr
      have HP := Lib.hid hp'
      have HB := Lib.hid hBr
      have HPL := Lib.hid hpl
      have HPN := Lib.hid hpn
      have HOU := Lib.hid ou
      have HLU := Lib.hid lu
      clear hr hp' hBr hpm hpl hpn ou lu tu
      repeat' (first | refine goS ?_ | refine go2 (fun hh => ?_) (fun hh => ?_) | fail)
      refine W.loopN ss.length (fun i F => ∃ e lm g x, F = Fr.mk 109 false e lm hp [] none ∧ x = refBx err ss hs t p i ∧ lm.get 9 = some (g, [.int .i64 0, .int .i64 x.x.lo, .int .i64 x.x.hi, .int .i64 x.y.lo, .int .i64 x.y.hi]) ∧ e.get 9 = some (.lptr 9 g 0) ∧
       lm.get 2 = some (0, [sa, .int .i64 cxl, .int .i64 cxh, .int .i64 cyl, .int .i64 cyh, .int .i64 wxl, .int .i64 wxh, .int .i64 wyl, .int .i64 wyh, ra]) ∧ lm.get 3 = some (0, [ha, .int .i64 err]) ∧ e.get 2 = some (.lptr 2 0 0) ∧ e.get 3 = some (.lptr 3 0 0) ∧ e.get 5 = some u ∧ e.get 6 = some (.vslice es) ∧ e.get 7 = some (.int .i64 ↑t) ∧ e.get 8 = some (.int .i64 ↑k) ∧ e.get 10 = some (.int .i64 ↑i) ∧ i ≤ ss.length) ?_ ?_
      ·refine ⟨_, _, nextGen lm 9, wideB, rfl, rfl, ?_, ?_, ?_, ?_, ?_, ?_, ?_, ?_, ?_, ?_, ?_, ?_⟩ <;> first | (simp only [nextGen, wideB, wideS, go_sem, *, Nat.reduceLT, Int.reduceEq, Int.reduceBEq, Int.reduceLE, Int.reduceLT, Nat.reduceAdd, Nat.reduceBEq, Nat.reduceEqDiff, reduceIte, Nat.reduceLeDiff, Nat.reduceMul, Nat.reduceSub, reduceCtorEq]; done) | simp [nextGen, wideB, wideS, go_sem, *, Nat.reduceLT, Int.reduceEq, Int.reduceBEq, Int.reduceLE, Int.reduceLT, Nat.reduceAdd, Nat.reduceBEq, Nat.reduceEqDiff, reduceIte, Nat.reduceLeDiff, Nat.reduceMul, Nat.reduceSub, reduceCtorEq]
      clear m2 m3 h2 h3 h5 h6 h7 h8 hd
      rintro i F ⟨e, lm, g, x, rfl, hx, m9, h9, m2, m3, h2, h3, h5, h6, h7, h8, h10, hi⟩
      have HX := Lib.hid hx
      clear hx
      by_cases hil : i < ss.length
      ·have hd : decide ((i : Int) < (ss.length : Int)) = true := by simpa using hil
       have hw3 := wrap_succ (m := ss.length) hil (by have := HN4.out; unfold maxL; omega)
       obtain ⟨s, hs'⟩ := get_some hil
       obtain ⟨v, hv⟩ := get_some (show i < p.length by rw [HPL.out]; exact hil)
       have hvn : v < hs.length := by rw [HSL.out]; exact HPN.out v (List.mem_of_getElem? hv)
       obtain ⟨q, hq⟩ := get_some hvn
       obtain ⟨id, hidx, hgr⟩ := HB.out.idx (P := Tryz.prog) (t := 39) (e := 3) (ag := false) Tryz.underlying39 ty_lay3 (k := i) (by rw [natsV_len, HPL.out]; exact hil)
       have hav := nat_at' hv
       have hi1 := pts_idx HL.out hs'
       have hi2 := pts_idx HH.out hq
       have hnx : refBx err ss hs t p (i + 1) = bxI x (nowB err s (turnR q (t : Nat))) := by
        rw [refBx_succ, ← HX.out]
        simp [refNow, List.getD, hs', hv, hq]
       have k81 := fun h => K81 (X := dX cHG) rfl q (t : Nat) h
       generalize turnR q (t : Nat) = w at *
       have w1 : IntKind.i64.wrap (w.x - s.x) = w64 (w.x - s.x) := rfl
       have w2 : IntKind.i64.wrap (w.y - s.y) = w64 (w.y - s.y) := rfl
       have hnow : nowB err s w = ⟨⟨w64 (w64 (w.x - s.x) - err), w64 (w64 (w.x - s.x) + err)⟩, ⟨w64 (w64 (w.y - s.y) - err), w64 (w64 (w.y - s.y) + err)⟩⟩ := rfl
       rw [hnow] at hnx
       generalize w64 (w.x - s.x) = dx at *
       generalize w64 (w.y - s.y) = dy at *
       have w3 : IntKind.i64.wrap (dx - err) = w64 (dx - err) := rfl
       have w4 : IntKind.i64.wrap (dx + err) = w64 (dx + err) := rfl
       have w5 : IntKind.i64.wrap (dy - err) = w64 (dy - err) := rfl
       have w6 : IntKind.i64.wrap (dy + err) = w64 (dy + err) := rfl
       generalize w64 (dx - err) = xl at *
       generalize w64 (dx + err) = xh at *
       generalize w64 (dy - err) = yl at *
       generalize w64 (dy + err) = yh at *
       have k158x := fun h => K158 (X := dX cHG) rfl x.x.lo x.x.hi xl xh h
       have k158y := fun h => K158 (X := dX cHG) rfl x.y.lo x.y.hi yl yh h
       have HNX := Lib.hid hnx
       clear hs' hv hq hnx hnow
       repeat' (first | (apply W.draw (id := 13) (lc := [18, 19, 0, 1, 2, 3, 4, 5, 6, 7, 8, 9, 10, 11, 12, 13, 14, 15, 16, 17, 20, 21]) (hot := [(12, 14), (12, 16), (12, 17), (14, 20), (16, 20), (17, 20)]); kernel_rfl; kernel_rfl; kernel_rfl; exact Z4) | (apply WD.cons (o := ⟨some 47, _, _, _, _, none⟩); exact rfl; exact rfl) | (apply WD.cons (o := ⟨some 48, _, _, _, _, none⟩); exact rfl; exact rfl) | (apply WD.cons (o := ⟨some 49, _, _, _, _, none⟩); exact rfl; exact rfl) | (apply WD.cons (o := ⟨some 50, _, _, _, _, none⟩); exact rfl; exact rfl) | (apply WD.cons (o := ⟨some 51, _, _, _, _, none⟩); exact rfl; exact rfl) | (apply WD.cons (o := ⟨some 52, _, _, _, _, none⟩); exact rfl; exact rfl) | (apply WD.cons (o := ⟨some 53, _, _, _, _, none⟩); exact rfl; exact rfl) | (apply WD.cons (o := ⟨some 54, _, _, _, _, none⟩); exact rfl; exact rfl) | (apply WD.cons (o := ⟨some 55, _, _, _, _, none⟩); exact rfl; exact rfl) | (apply WD.cons (o := ⟨some 56, _, _, _, _, none⟩); exact rfl; exact rfl) | (apply WD.alloc (o := ⟨some 11, .alloc 38, 0, _, _, none⟩); exact rfl; exact rfl; exact Z1; simp only [pM, pN]) | (apply WD.alloc (o := ⟨some 12, .alloc 38, 0, _, _, none⟩); exact rfl; exact rfl; exact Z1; simp only [pM, pN]) | (apply WD.cons (o := ⟨none, .store 38 (.tmp 11) (.tmp 51), _, _, _, none⟩); exact rfl; exact rfl) | (apply WD.cons (o := ⟨none, .store 38 (.tmp 12) (.tmp 56), _, _, _, none⟩); exact rfl; exact rfl) | (refine WD.cons rfl rfl ?_) | (refine WD.nil ⟨?_, ?_⟩; rotate_left; simp only [tN, bN, eN, true_and]) | (refine calmR rfl rfl rfl rfl rfl ?_ ?_; (focus (first | exact Z2 | exact Z1))) | (refine calmE rfl rfl rfl rfl rfl ?_ ?_; (focus (first | exact Z2 | exact Z1))) | (with_reducible refine calmEnd) | refine go1 ?_ | (apply U6; exact Z1; exact Z1; (focus (simp only [List.nil_append, List.append_nil]; first | exact k81 _ | exact k158x _ | exact k158y _)); simp only [pM, pN, rR, rP]) | refine go2 (fun hh => ?_) (fun hh => ?_) | fail)
       refine ⟨hil, _, _, g, bxI x ⟨⟨xl, xh⟩, ⟨yl, yh⟩⟩, rfl, HNX.out.symm, ?_, ?_, ?_, ?_, ?_, ?_, ?_, ?_, ?_, ?_, ?_, by omega⟩
       all_goals first | (simp only [bxI, interS, go_sem, *, Nat.reduceLT, Int.reduceEq, Int.reduceBEq, Int.reduceLE, Int.reduceLT, Nat.reduceAdd, Nat.reduceBEq, Nat.reduceEqDiff, reduceIte, Nat.reduceLeDiff, Nat.reduceMul, Nat.reduceSub, reduceCtorEq]; done) | simp [bxI, interS, go_sem, *, Nat.reduceLT, Int.reduceEq, Int.reduceBEq, Int.reduceLE, Int.reduceLT, Nat.reduceAdd, Nat.reduceBEq, Nat.reduceEqDiff, reduceIte, Nat.reduceLeDiff, Nat.reduceMul, Nat.reduceSub, reduceCtorEq]
      ·have hd : decide ((i : Int) < (ss.length : Int)) = false := by simpa using hil
       have hii : i = ss.length := by omega
       have hx := HX.out
       rw [hii] at hx
       have HX2 := Lib.hid hx
       have hem : addB o2 x = if (empS x.x || empS x.y) || o2.any (fun y => bxEq y x) then o2 else o2 ++ [x] := rfl
       have HEM := Lib.hid hem
       have hnt := refTo_next (err := err) (ss := ss) (hs := hs) (t := t) (out := out) HP.out
       rw [← HOT2.out, ← hx] at hnt
       have HNT := Lib.hid hnt
       have hep : empS x.x = decide (x.x.lo > x.x.hi) := rfl
       have hep2 : empS x.y = decide (x.y.lo > x.y.hi) := rfl
       have ou := HOU.out
       have lu := HLU.out
       have HII := Lib.hid hii
       have hcase : (decide (x.x.lo > x.x.hi) = true ∧ (empS x.x || empS x.y) = true) ∨ (decide (x.x.lo > x.x.hi) = false ∧ decide (x.y.lo > x.y.hi) = true ∧ (empS x.x || empS x.y) = true) ∨ (decide (x.x.lo > x.x.hi) = false ∧ decide (x.y.lo > x.y.hi) = false ∧ (empS x.x || empS x.y) = false) := by
        rw [hep, hep2]
        cases decide (x.x.lo > x.x.hi) <;> cases decide (x.y.lo > x.y.hi) <;> simp
       generalize (empS x.x || empS x.y) = mz at *
       clear hii hx hem hnt HX hil hi hep hep2
       have hfin : ∀ (b : Bool), (mz || o2.any (fun y => bxEq y x)) = b → addB o2 x = if b then o2 else o2 ++ [x] := fun b hb => by rw [HEM.out, hb]
       have HFIN := Lib.hid hfin
       clear hfin
       rcases hcase with ⟨c1, cm⟩ | ⟨c1, c2, cm⟩ | ⟨c1, c2, cm⟩
       all_goals (have HM := Lib.hid cm; clear cm)
       all_goals repeat' (first | refine goS ?_ | refine go2 (fun hh => ?_) (fun hh => ?_) | fail)
       all_goals (
        refine W.loopN o2.length (fun j F => ∃ e, F = Fr.mk 109 false e lm hp [] none ∧ e.get 13 = some (.bool (mz || (o2.take j).any (fun y => bxEq y x))) ∧ e.get 9 = some (.lptr 9 g 0) ∧
         e.get 2 = some (.lptr 2 0 0) ∧ e.get 3 = some (.lptr 3 0 0) ∧ e.get 5 = some u ∧ e.get 6 = some (.vslice es) ∧ e.get 7 = some (.int .i64 ↑t) ∧ e.get 8 = some (.int .i64 ↑k) ∧ e.get 14 = some (.int .i64 ↑j) ∧ j ≤ o2.length) ?_ ?_
        ·refine ⟨_, rfl, ?_, ?_, ?_, ?_, ?_, ?_, ?_, ?_, ?_, by omega⟩
         ·rw [HM.out]; simp only [List.take_zero, List.any_nil, Bool.or_false, go_sem, *, Nat.reduceLT, Int.reduceEq, Int.reduceBEq, Int.reduceLE, Int.reduceLT, Nat.reduceAdd, Nat.reduceBEq, Nat.reduceEqDiff, reduceIte, Nat.reduceLeDiff, Nat.reduceMul, Nat.reduceSub, reduceCtorEq]
         all_goals first | exact Z2 | simp [go_sem, *]
        clear h2 h3 h5 h6 h7 h8 h9 h10 hd
        rintro j F ⟨e, rfl, h13, h9, h2, h3, h5, h6, h7, h8, h14, hj⟩
        by_cases hjl : j < o2.length
        ·have hd : decide ((j : Int) < (o2.length : Int)) = true := by simpa using hjl
         have hw4 := wrap_succ (m := o2.length) hjl (by have := HOL2.out; have := HES.out; unfold maxL; omega)
         obtain ⟨y, hy⟩ := get_some hjl
         obtain ⟨id, hidx, hgr, hat⟩ := mark_row HBU.out.blt hy
         have heq := eq181 0 y.x.lo y.x.hi y.y.lo y.y.hi 0 x.x.lo x.x.hi x.y.lo x.y.hi
         rw [show ((0 : Int) == 0 && (y.x.lo == x.x.lo && y.x.hi == x.x.hi) && (y.y.lo == x.y.lo && y.y.hi == x.y.hi)) = bxEq y x from by simp [bxEq]] at heq
         have hnx := any_take (fun y => bxEq y x) hy
         have HNX := Lib.hid hnx
         clear hy hnx
         generalize bxEq y x = bq at *
         generalize hcm : (mz || (o2.take j).any (fun y => bxEq y x)) = cm at *
         have HCM := Lib.hid hcm
         clear hcm
         cases cm
         all_goals repeat' (first | (apply W.drawQ (id := 20) (l1 := [0, 1, 2, 3, 4, 5, 6, 7, 8, 9]) (l2 := []); kernel_rfl; kernel_rfl; kernel_rfl; exact Z4) | refine go1 ?_ | refine go2 (fun hh => ?_) (fun hh => ?_) | fail)
         all_goals (
          refine ⟨hjl, _, rfl, ?_, ?_, ?_, ?_, ?_, ?_, ?_, ?_, ?_, by omega⟩
          ·rw [HNX.out, ← Bool.or_assoc, HCM.out]; simp only [Bool.true_or, Bool.false_or, go_sem, *, Nat.reduceLT, Int.reduceEq, Int.reduceBEq, Int.reduceLE, Int.reduceLT, Nat.reduceAdd, Nat.reduceBEq, Nat.reduceEqDiff, reduceIte, Nat.reduceLeDiff, Nat.reduceMul, Nat.reduceSub, reduceCtorEq]
          all_goals exact Z2)
        ·have hd : decide ((j : Int) < (o2.length : Int)) = false := by simpa using hjl
         have hjj : j = o2.length := by omega
         rw [hjj, List.take_length] at h13
         have had0 := HFIN.out _ rfl
         generalize (mz || o2.any (fun y => bxEq y x)) = cm at h13 had0
         have HAD := Lib.hid had0
         have HJ := Lib.hid hjj
         clear hjj had0 hjl hj
         cases cm
         ·have hll : (o2.map markE).length + (0 + 1) ≤ most := by
           rw [List.length_map]
           have := HOL2.out
           have := HES.out
           unfold most; omega
          repeat' (first | (apply WO1.appendN (t := 156) (u := 156) (e := 181) (e' := 181) (sz := 5) (tl := []) (b := hz.next) (h0 := hz); (focus (exact HBU.out)); (focus (exact HXE.out)); exact Z1; exact rfl; exact Z2; exact Z2; exact Z2; (focus (exact ty_row156)); exact Z1; (focus (intro v hv; simp at hv; subst hv; rfl)); (focus (simp only [List.length_cons, List.length_nil]; exact hll)); (focus (simp)); (intro v2 hp2 hB2 ho2 hX2; have hc2 := hB2.blt.cells; have ht2 := hB2.blt.tup; simp only [AV.cells] at hc2; simp only [isTuple] at ht2; simp only [pM, pN])) | refine go1 ?_ | refine go2 (fun hh => ?_) (fun hh => ?_) | fail)
          have had : addB o2 x = o2 ++ [x] := by rw [HAD.out]; rfl
          refine ⟨hkl, _, _, hp2, v2, o2 ++ [x], rfl, hX2, ?_, ?_, ?_, ?_, ?_, ?_, ?_, ?_, ?_, ?_, ?_, by omega⟩
          ·have e3 : (o2 ++ [x]).map markE = o2.map markE ++ [.agg [.int .i64 0, .int .i64 x.x.lo, .int .i64 x.x.hi, .int .i64 x.y.lo, .int .i64 x.y.hi]] := by simp [markE]
           rw [e3]; exact hB2
          ·rw [HNT.out]; exact had.symm
          ·have := HOL2.out
           simp only [List.length_append, List.length_cons, List.length_nil]; omega
          all_goals exact Z2
         ·repeat' (first | refine goS ?_ | refine go2 (fun hh => ?_) (fun hh => ?_) | fail)
          have had : addB o2 x = o2 := by rw [HAD.out]; rfl
          refine ⟨hkl, _, _, hp, u, o2, rfl, HXE.out, HBU.out, ?_, ?_, ?_, ?_, ?_, ?_, ?_, ?_, ?_, ?_, by omega⟩
          ·rw [HNT.out]; exact had.symm
          ·have := HOL2.out
           omega
          all_goals exact Z2)
     ·have hd : decide ((k : Int) < (es.length : Int)) = false := by simpa using hkl
      have hke : k = es.length := by omega
      have ho2 : o2 = refBoxes err ss hs (t + 1) := by
       rw [HOT2.out, hke, HEL.out.1, List.take_length, HOT.out, refBoxes_succ]
      have HO2 := Lib.hid ho2
      have HK := Lib.hid hk
      clear hke ho2 hkl hk
      repeat' (first | refine goS ?_ | refine go2 (fun hh => ?_) (fun hh => ?_) | fail)
      refine ⟨ht8, _, _, hp, u, o2, rfl, HXE.out, HBU.out, HO2.out, ?_, ?_, ?_, ?_, ?_, ?_, ?_, ?_, by omega⟩
      ·have := HOL2.out
       have := HK.out
       have := HES.out
       omega
      all_goals exact Z2
    ·have hd : decide ((t : Int) < 8) = false := by simp; omega
     have htt : t = 8 := by omega
     have hor : out = res := by rw [HOT.out, htt, HRES.out]
     subst hor
     obtain ⟨hf2, y1, y2, y3⟩ := HBU.out.blt.freeze
     have ou := HBU.out.blt.out
     have cu := HBU.out.blt.cells
     have tu := HBU.out.blt.tup
     simp only [AV.cells] at cu
     simp only [isTuple] at tu
     clear htt ht8 ht
     repeat' (first | refine goS ?_ | refine go2 (fun hh => ?_) (fun hh => ?_) | fail)
     all_goals (simp only [resV_def (X := dX cHG) Tryz.func109, Tryz.results109]; first | exact J5 | refine J6 ?_)
   ·cases h
  ·cases h
 ·cases h
end Go.AM
namespace Go.AM
open Go
variable [Keep]
def empB (b : Bx) : Bool := empS b.x || empS b.y
theorem bxI_emp {a b : Bx} (h : empB a = true) : empB (bxI a b) = true := by
 simp only [empB, bxI, Bool.or_eq_true] at h ⊢
 exact h.imp emp_inter emp_inter
theorem fold_emp : ∀ (l : List Bx) {x : Bx}, empB x = true → empB (l.foldl bxI x) = true := by
 intro l
 induction l with
 | nil => intro x h; exact h
 | cons y r ih => intro x h; exact ih (bxI_emp h)
theorem goB_fold : ∀ (l : List Bx) (x : Bx), l ≠ [] ∨ empB x = false → goB l x = if empB (l.foldl bxI x) then none else some (l.foldl bxI x) := by
 intro l
 induction l with
 | nil =>
  intro x h
  rcases h with h | h
  ·exact absurd rfl h
  ·simp [goB, h]
 | cons n r ih =>
  intro x _
  have e : goB (n :: r) x = if empB (bxI x n) then none else goB r (bxI x n) := rfl
  rw [e, List.foldl_cons]
  cases h : empB (bxI x n) with
  | true => simp [fold_emp r h]
  | false => simp only [Bool.false_eq_true, if_false]; exact ih _ (.inr h)
theorem bxI_same (n : Bx) : bxI n n = n := by
 obtain ⟨x, y⟩ := n
 have h : ∀ s : Sp, interS s s = s := fun s => Sp.ext2 (by simp [interS_lo]) (by simp [interS_hi])
 simp [bxI, h]
structure BdB (b : Bx) : Prop where
 a : -104 ≤ b.x.lo ∧ b.x.lo ≤ 104 ∧ -104 ≤ b.x.hi ∧ b.x.hi ≤ 104
 b : -104 ≤ b.y.lo ∧ b.y.lo ≤ 104 ∧ -104 ≤ b.y.hi ∧ b.y.hi ≤ 104
theorem bxI_wide {n : Bx} (h : BdB n) : bxI wideB n = n := by
 obtain ⟨x, y⟩ := n
 have h1 := h.a
 have h2 := h.b
 simp only at h1 h2
 have e1 : interS wideS x = x := interW (by omega) (by omega)
 have e2 : interS wideS y = y := interW (by omega) (by omega)
 show (⟨interS wideS x, interS wideS y⟩ : Bx) = _
 rw [e1, e2]
theorem bxI_bd {a b : Bx} (h : BdB a) (k : BdB b) : BdB (bxI a b) := by
 have h1 := h.a
 have h2 := h.b
 have k1 := k.a
 have k2 := k.b
 refine ⟨?_, ?_⟩ <;> simp only [bxI, interS_lo, interS_hi] <;> omega
theorem fold_bd : ∀ (l : List Bx) (x : Bx), (∀ y ∈ l, BdB y) → BdB x → BdB (l.foldl bxI x) := by
 intro l
 induction l with
 | nil => intro x _ h; exact h
 | cons y r ih => intro x hl h; exact ih _ (fun z hz => hl z (by simp [hz])) (bxI_bd h (hl y (by simp)))
theorem boxS_fold {l : List Bx} (hne : l ≠ []) (h : ∀ y ∈ l, BdB y) : (boxS l = if empB (l.foldl bxI wideB) then none else some (l.foldl bxI wideB)) ∧ BdB (l.foldl bxI wideB) := by
 cases l with
 | nil => exact absurd rfl hne
 | cons n r =>
  have hn := h n (by simp)
  have e : (n :: r).foldl bxI wideB = r.foldl bxI n := by rw [List.foldl_cons, bxI_wide hn]
  have e2 : (n :: r).foldl bxI n = r.foldl bxI n := by rw [List.foldl_cons, bxI_same]
  rw [e]
  refine ⟨?_, fold_bd r n (fun z hz => h z (by simp [hz])) hn⟩
  show goB (n :: r) n = _
  rw [goB_fold _ _ (.inl (by simp)), e2]
theorem ok20 {p : Pt} : okPt 20 p = true ↔ (-20 ≤ p.x ∧ p.x ≤ 20) ∧ (-20 ≤ p.y ∧ p.y ≤ 20) := by
 have e : w64 (-20) = -20 := rfl
 simp only [okPt, inB, e, Bool.and_eq_true, decide_eq_true_eq, ge_iff_le]
theorem nowB_bd {err : Int} {s p : Pt} (hs : okPt 20 s = true) (hp : okPt 80 p = true) (h0 : 0 ≤ err) (h4 : err ≤ 4) : BdB (nowB err s p) ∧ nowB err s p = ⟨⟨p.x - s.x - err, p.x - s.x + err⟩, ⟨p.y - s.y - err, p.y - s.y + err⟩⟩ := by
 have a := ok20.1 hs
 have b := ok80.1 hp
 have e1 : w64 (p.x - s.x) = p.x - s.x := wrap_small (by omega) (by omega)
 have e2 : w64 (p.y - s.y) = p.y - s.y := wrap_small (by omega) (by omega)
 have e3 : w64 (p.x - s.x - err) = p.x - s.x - err := wrap_small (by omega) (by omega)
 have e4 : w64 (p.x - s.x + err) = p.x - s.x + err := wrap_small (by omega) (by omega)
 have e5 : w64 (p.y - s.y - err) = p.y - s.y - err := wrap_small (by omega) (by omega)
 have e6 : w64 (p.y - s.y + err) = p.y - s.y + err := wrap_small (by omega) (by omega)
 have e : nowB err s p = ⟨⟨p.x - s.x - err, p.x - s.x + err⟩, ⟨p.y - s.y - err, p.y - s.y + err⟩⟩ := by
  unfold nowB
  rw [e1, e2, e3, e4, e5, e6]
 refine ⟨?_, e⟩
 rw [e]
 constructor <;> simp only <;> omega
theorem ords_ext (n : Nat) : ∀ (d : Nat) (p : List Nat), ordsL n d p = ext n d p := by
 intro d
 induction d with
 | zero => intro p; rfl
 | succ d ih =>
  intro p
  simp only [ordsL, ext, kidsTo]
  rw [List.flatMap_map]
  induction List.range n with
  | nil => rfl
  | cons i r ihr =>
   rw [List.flatMap_cons, ihr, List.filter_cons]
   cases h : p.contains i with
   | true => simp
   | false => simp [ih]
theorem ords_lev (n : Nat) : ordsL n n [] = lev n n := by
 have := lev_ext n n 0
 rw [Nat.zero_add] at this
 rw [this, ords_ext]
 show _ = [[]].flatMap (ext n n)
 simp
def addU (out : List Bx) (x : Bx) : List Bx := if out.any (fun y => bxEq y x) then out else out ++ [x]
theorem bxEq_iff {a b : Bx} : bxEq a b = true ↔ a = b := by
 obtain ⟨⟨a1, a2⟩, ⟨a3, a4⟩⟩ := a
 obtain ⟨⟨b1, b2⟩, ⟨b3, b4⟩⟩ := b
 simp only [bxEq, Bool.and_eq_true, beq_iff_eq, Bx.mk.injEq, Sp.mk.injEq]
theorem any_mem {out : List Bx} {x : Bx} : out.any (fun y => bxEq y x) = true ↔ x ∈ out := by
 rw [List.any_eq_true]
 constructor
 ·rintro ⟨y, h1, h2⟩; rw [← bxEq_iff.1 h2]; exact h1
 ·intro h; exact ⟨x, h, bxEq_iff.2 rfl⟩
theorem addU_mem {out : List Bx} {x y : Bx} : y ∈ addU out x ↔ y ∈ out ∨ y = x := by
 unfold addU
 split
 ·rename_i h
  have := any_mem.1 h
  constructor
  ·exact .inl
  ·rintro (q | rfl)
   ·exact q
   ·exact this
 ·simp
theorem dd_mem {y : Bx} : ∀ {l out : List Bx}, y ∈ l.foldl addU out ↔ y ∈ out ∨ y ∈ l := by
 intro l
 induction l with
 | nil => intro out; simp
 | cons x r ih =>
  intro out
  rw [List.foldl_cons, ih, addU_mem, List.mem_cons]
  simp only [or_assoc]
theorem dd_any (p : Bx → Bool) (l : List Bx) : (l.foldl addU []).any p = l.any p := by
 rw [Bool.eq_iff_iff, List.any_eq_true, List.any_eq_true]
 simp only [dd_mem, List.not_mem_nil, false_or]
theorem fold_filterMap {α β : Type} (f : α → Option β) (g : List β → β → List β) : ∀ (l : List α) (s : List β), l.foldl (fun s a => match f a with | none => s | some b => g s b) s = (l.filterMap f).foldl g s := by
 intro l
 induction l with
 | nil => intro s; rfl
 | cons a r ih =>
  intro s
  rw [List.foldl_cons, ih]
  cases h : f a <;> simp [h]
theorem refBx_fold (err : Int) (ss hs : List Pt) (t : Nat) (o : List Nat) (n : Nat) : refBx err ss hs t o n = ((List.range n).map (refNow err ss hs t o)).foldl bxI wideB := by
 unfold refBx
 rw [List.foldl_map]
section
variable {err : Int} {ss hs : List Pt} (h20 : ss.all (okPt 20) = true) (h80 : hs.all (okPt 80) = true) (h0 : 0 ≤ err) (h4 : err ≤ 4) (hn : 1 ≤ ss.length)
include h20 h80 h0 h4 hn
theorem now_ref {t : Nat} (ht : t < 8) (o : List Nat) (i : Nat) : BdB (refNow err ss hs t o i) ∧ refNow err ss hs t o i = nowB err (ss.getD i ⟨0, 0⟩) (turnP (t : Nat) (hs.getD (o.getD i 0) ⟨0, 0⟩)) := by
 have e : refNow err ss hs t o i = nowB err (ss.getD i ⟨0, 0⟩) (turnP (t : Nat) (hs.getD (o.getD i 0) ⟨0, 0⟩)) := by
  unfold refNow
  rw [turnP_R (by simp [inB]; omega)]
 refine ⟨?_, e⟩
 rw [e]
 have e1 : ∀ (f : Int) (l : List Pt) (i : Nat), l.all (okPt f) = true → okPt f ⟨0, 0⟩ = true → okPt f (l.getD i ⟨0, 0⟩) = true := by
  intro f l i h hf
  rw [List.getD]
  cases e : l[i]? with
  | none => exact hf
  | some p => exact List.all_eq_true.1 h p (List.mem_of_getElem? e)
 exact (nowB_bd (e1 20 ss i h20 (by decide)) (turn_ok ht (e1 80 hs _ h80 (by decide))) h0 h4).1
theorem boxOn_ref {t : Nat} (ht : t < 8) (o : List Nat) : boxOn err ss hs t o = (if empB (refBx err ss hs t o ss.length) then none else some (refBx err ss hs t o ss.length)) ∧ BdB (refBx err ss hs t o ss.length) := by
 have e : ((List.range ss.length).map fun i => nowB err (ss.getD i ⟨0, 0⟩) (turnP (t : Nat) (hs.getD (o.getD i 0) ⟨0, 0⟩))) = (List.range ss.length).map (refNow err ss hs t o) :=
  List.map_congr_left fun i _ => (now_ref h20 h80 h0 h4 hn ht o i).2.symm
 unfold boxOn
 rw [refBx_fold, e]
 refine boxS_fold (fun h => ?_) (fun y hy => ?_)
 ·have := congrArg List.length h
  rw [List.length_map, List.length_range, List.length_nil] at this
  omega
 ·obtain ⟨i, _, rfl⟩ := List.mem_map.1 hy
  exact (now_ref h20 h80 h0 h4 hn ht o i).1
theorem boxT_bd {t : Nat} (ht : t < 8) : ∀ y ∈ boxT err ss hs t, BdB y ∧ empB y = false := by
 intro y hy
 obtain ⟨o, _, ho⟩ := List.mem_filterMap.1 hy
 obtain ⟨h1, h2⟩ := boxOn_ref h20 h80 h0 h4 hn ht o
 rw [h1] at ho
 split at ho
 ·cases ho
 ·rename_i he
  cases ho
  exact ⟨h2, by simpa using he⟩
theorem boxL_bd : ∀ y ∈ boxL err ss hs, BdB y ∧ empB y = false := by
 intro y hy
 obtain ⟨t, ht, h⟩ := List.mem_flatMap.1 hy
 exact boxT_bd h20 h80 h0 h4 hn (List.mem_range.1 ht) y h
theorem refTo_dd {t : Nat} (ht : t < 8) (out : List Bx) : refTo err ss hs t (lev ss.length ss.length) out = (boxT err ss hs t).foldl addU out := by
 unfold refTo boxT
 rw [← fold_filterMap, ords_lev]
 congr 1
 funext out o
 rw [(boxOn_ref h20 h80 h0 h4 hn ht o).1]
 have e : addB out (refBx err ss hs t o ss.length) = if empB (refBx err ss hs t o ss.length) || out.any (fun y => bxEq y (refBx err ss hs t o ss.length)) then out else out ++ [refBx err ss hs t o ss.length] := rfl
 rw [e]
 cases empB (refBx err ss hs t o ss.length) <;> simp [addU]
theorem refBoxes_dd : refBoxes err ss hs 8 = (boxL err ss hs).foldl addU [] := by
 have : ∀ k, k ≤ 8 → refBoxes err ss hs k = ((List.range k).flatMap (boxT err ss hs)).foldl addU [] := by
  intro k
  induction k with
  | zero => intro _; rfl
  | succ k ih =>
   intro hk
   rw [refBoxes_succ, ih (by omega), refTo_dd h20 h80 h0 h4 hn (by omega), List.range_succ, List.flatMap_append, List.foldl_append]
   simp
 exact this 8 (Nat.le_refl _)
end
theorem suit_pts {ss hs : List Pt} {cx cy wx wy : Sp} {rs : List Rdg} {err : Int} (h : suitB (machB ss cx cy wx wy rs) ss hs err = true) : ss.all (okPt 20) = true ∧ hs.all (okPt 80) = true ∧ 0 ≤ err ∧ err ≤ 4 ∧ 1 ≤ ss.length := by
 obtain ⟨h1, h2, h3, h4, h5, h6⟩ := suit_small h
 unfold machB at h1
 simp only [Bool.and_eq_true, decide_eq_true_eq] at h1
 have h7 : allB ss 2 20 = true := by simp only [h1]
 unfold butB at h2
 simp only [Bool.and_eq_true, inB, decide_eq_true_eq] at h2
 have h8 := h2.1
 rw [allB_P] at h7 h8
 simp only [pointsB, Bool.and_eq_true] at h7 h8
 exact ⟨h7.1, h8.1, by omega, by omega, by omega⟩
structure HeldOk (m : Held) : Prop where
 b : 0 ≤ m.b ∧ m.b ≤ 12
 x : -104 ≤ m.x.lo ∧ m.x.lo ≤ 104 ∧ -104 ≤ m.x.hi ∧ m.x.hi ≤ 104
 y : -104 ≤ m.y.lo ∧ m.y.lo ≤ 104 ∧ -104 ≤ m.y.hi ∧ m.y.hi ≤ 104
theorem held_box {n : Nat} {y : Bx} (hn : n ≤ 12) (h : BdB y) : HeldOk ⟨n, y.x, y.y⟩ := ⟨by simp only; omega, h.a, h.b⟩
section
variable {st : List Pt} {cx cy wx wy : Sp} {rs : List Rdg} (h : machB st cx cy wx wy rs = true) {ms : List Held} (hm : ∀ m ∈ ms, HeldOk m)
include h hm
theorem good_xh : Good cx wx (ax0 cx wx rs ms).limits := by
 obtain ⟨a, b, c, d, e, f, g⟩ := good_x h
 refine ⟨a, b, c, d, e, f, fun m h' => ?_⟩
 rcases List.mem_append.1 h' with q | q
 ·exact g m q
 ·obtain ⟨k, hk, rfl⟩ := List.mem_map.1 q
  exact (hm k hk).x
theorem good_yh : Good cy wy (ax1 cy wy rs ms).limits := by
 obtain ⟨a, b, c, d, e, f, g⟩ := good_y h
 refine ⟨a, b, c, d, e, f, fun m h' => ?_⟩
 rcases List.mem_append.1 h' with q | q
 ·exact g m q
 ·obtain ⟨k, hk, rfl⟩ := List.mem_map.1 q
  exact (hm k hk).y
theorem held_blk : (marksOf rs ++ ms).all blkB = true := by
 refine List.all_eq_true.2 fun m h' => ?_
 rcases List.mem_append.1 h' with q | q
 ·exact List.all_eq_true.1 (marks_blk h) m q
 ·have := (hm m q).b
  simp [blkB, inB]
  omega
theorem held_pos : ∀ m ∈ marksOf rs ++ ms, 0 ≤ m.b := by
 intro m h'
 rcases List.mem_append.1 h' with q | q
 ·exact marks_pos h m q
 ·exact (hm m q).b.1
theorem axisXh : axisV ⟨cx, wx, []⟩ (ownS (·.x) (marksOf rs ++ ms) initS) = axO (boundsS (ax0 cx wx rs ms)) := by
 refine axis_ref (L := (ax0 cx wx rs ms).limits) (good_xh h hm) _ (by rw [ownS_len]; rfl) (fun k hk => ?_)
 rw [own_get _ k _ _ (by exact hk) (held_pos h hm), List.map_append, lims_155, init_get hk]
 rfl
theorem axisYh : axisV ⟨cy, wy, []⟩ (ownS (·.y) (marksOf rs ++ ms) initS) = axO (boundsS (ax1 cy wy rs ms)) := by
 refine axis_ref (L := (ax1 cy wy rs ms).limits) (good_yh h hm) _ (by rw [ownS_len]; rfl) (fun k hk => ?_)
 rw [own_get _ k _ _ (by exact hk) (held_pos h hm), List.map_append, lims_156, init_get hk]
 rfl
end
end Go.AM
namespace Go.AM
open Go Go.Proofs
variable [Keep]
attribute [local irreducible] W WO WO1 WD WQ WT thenQ blockQ endR isRet retK Cl ClR
attribute [local irreducible] isNew roundQ RdR clR boundsS machB boxL suitB
theorem eqG169 : Tryz.prog.eqGuardType Tryz.prog.depth 169 = false := by kernel_rfl
theorem eqH169 : Tryz.prog.stoodInHeld 48 = false := by kernel_rfl
theorem eqA169 (a b c d a' b' c' d' : Int) : binV Tryz.prog .eql 169 false (.agg [.int .i64 a, .int .i64 b, .int .i64 c, .int .i64 d]) (.agg [.int .i64 a', .int .i64 b', .int .i64 c', .int .i64 d']) = some (.bool ((a == a' && b == b') && (c == c' && d == d'))) := by
 simp only [binV, eqOp, eqV, eqG169, Bool.false_eq_true, if_false, eqDepth, eqT, Tryz.underlying169, ty_lay48, show List.range 2 = [0, 1] from rfl, eqElems, Tryz.underlying48, eqH169, eqFields]
 simp [eqFields, readT, ty_lay3, ty_lay48, readAt, Tryz.underlying3]
 cases h1 : (a == a') <;> cases h2 : (b == b') <;> cases h3 : (c == c') <;> cases h4 : (d == d') <;> simp_all
theorem bx_idx {a : AV} {l : List Bx} (h : slV bxC a = some l) {k : Nat} {p : Bx} (hp : l[k]? = some p) (H : Heap) : indexAddrV Tryz.prog H 165 a (.int .i64 ↑k) = some (.vptr [.int .i64 p.x.lo, .int .i64 p.x.hi, .int .i64 p.y.lo, .int .i64 p.y.hi]) :=
 (slV_is h).1.idx (x := bxC.enc p) Tryz.underlying165 ty_lay169 (by simp [hp]) rfl
def sp165 : List AV → Option AV
 | [a, .agg [.int .i64 xl, .int .i64 xh, .int .i64 yl, .int .i64 yh]] => (slV bxC a).map fun l => .int .i64 (idxOf (fun p => bxEq ⟨⟨xl, xh⟩, ⟨yl, yh⟩⟩ p) l)
 | _ => none
theorem p165 : ∀ args v, sp165 args = some v → v.flat = true := by
 intro args v h
 unfold sp165 at h
 split at h
 ·simp only [Option.map_eq_some_iff] at h; obtain ⟨l, _, rfl⟩ := h; rfl
 ·cases h
set_option maxHeartbeats 1000000 in
theorem F165 : IntrFn Tryz.prog 165 (flatFn sp165) := by
 refine flat_fn (X := dX i0) i0_sound p165 ?_
 intro args v h
 unfold sp165 at h
 split at h
 ·rename_i a xl xh yl yh
  simp only [Option.map_eq_some_iff] at h
  obtain ⟨l, ha, rfl⟩ := h
  have hlen := sl_len ha
  have hout := sl_out ha
  have hmax := sl_max ha
  refine ClR.walk (c := _) rfl Tryz.func165 rfl (by kernel_rfl) rfl isRet_fail ?_
  simp only [entryEnv, Nat.reduceAdd, emptyHp]
  repeat' (first | refine goS ?_ | refine go2 (fun hh => ?_) (fun hh => ?_) | fail)
  refine W.loopN l.length (fun k F => ∃ e lm, F = Fr.mk 165 false e lm ⟨0, .nil⟩ [] none ∧ (l.take k).all (fun p => !bxEq ⟨⟨xl, xh⟩, ⟨yl, yh⟩⟩ p) = true ∧ lm.get 3 = some (0, [.int .i64 xl, .int .i64 xh, .int .i64 yl, .int .i64 yh]) ∧ e.get 0 = some a ∧ e.get 3 = some (.lptr 3 0 0) ∧ e.get 7 = some (.int .i64 ↑l.length) ∧ e.get 8 = some (.int .i64 ↑k) ∧ k ≤ l.length) ?_ ?_
  ·refine ⟨_, _, rfl, ?_, ?_, ?_, ?_, ?_, ?_, ?_⟩ <;> first | exact Z2 | simp [go_sem, *]
  rintro k F ⟨e, lm, rfl, hall, m3, h0, h3, h7, h8, hk⟩
  have HA := Lib.hid hall
  clear hall
  by_cases hlt : k < l.length
  ·obtain ⟨p, hp⟩ := get_some hlt
   have hix := bx_idx ha hp
   have hd : decide ((k : Int) < (l.length : Int)) = true := by simpa using hlt
   have hw := wrap_succ hlt hmax
   have hnx := take_next hp
   have he := eqA169 xl xh yl yh p.x.lo p.x.hi p.y.lo p.y.hi
   have hpe : ((xl == p.x.lo && xh == p.x.hi) && (yl == p.y.lo && yh == p.y.hi)) = bxEq ⟨⟨xl, xh⟩, ⟨yl, yh⟩⟩ p := rfl
   rw [hpe] at he
   clear hpe
   cases hvp : bxEq ⟨⟨xl, xh⟩, ⟨yl, yh⟩⟩ p with
   | true =>
    have HI := Lib.hid (idxOf_at (pb := fun p => bxEq ⟨⟨xl, xh⟩, ⟨yl, yh⟩⟩ p) HA.out hp hvp)
    rw [hvp] at he
    clear ha hp hnx hvp
    repeat' (first | (apply W.drawQ (id := 4) (l1 := [0, 1, 2, 3, 4, 5]) (l2 := []); kernel_rfl; kernel_rfl; kernel_rfl; exact Z4) | refine go1 ?_ | refine go2 (fun hh => ?_) (fun hh => ?_) | fail)
    all_goals (simp only [resV_def (X := dX i0) Tryz.func165, Tryz.results165]; first | exact J5 | refine J6 ?_)
    rw [HI.out]
   | false =>
    rw [hvp] at he
    have HN := Lib.hid hnx
    have HV := Lib.hid hvp
    clear ha hp hnx hvp
    repeat' (first | (apply W.drawQ (id := 4) (l1 := [0, 1, 2, 3, 4, 5]) (l2 := []); kernel_rfl; kernel_rfl; kernel_rfl; exact Z4) | refine go1 ?_ | refine go2 (fun hh => ?_) (fun hh => ?_) | fail)
    refine ⟨hlt, _, _, rfl, ?_, ?_, ?_, ?_, ?_, ?_, by omega⟩
    ·have := HA.out
     rw [HN.out]
     simp [this, HV.out]
    all_goals exact Z2
  ·have hd : decide ((k : Int) < (l.length : Int)) = false := by simpa using hlt
   have hkl : k = l.length := by omega
   have h2 := HA.out
   rw [hkl, List.take_length] at h2
   have HI := Lib.hid (idxOf_none h2)
   clear ha h2 hkl
   repeat' (first | refine goS ?_ | refine go2 (fun hh => ?_) (fun hh => ?_) | fail)
   all_goals (simp only [resV_def (X := dX i0) Tryz.func165, Tryz.results165]; first | exact J5 | refine J6 ?_)
   rw [HI.out]
 ·cases h
def sp114 : List AV → Option AV
 | [a, .agg [.int .i64 xl, .int .i64 xh, .int .i64 yl, .int .i64 yh]] => (slV bxC a).map fun l => .bool (l.any fun p => bxEq ⟨⟨xl, xh⟩, ⟨yl, yh⟩⟩ p)
 | _ => none
theorem p114 : ∀ args v, sp114 args = some v → v.flat = true := by
 intro args v h
 unfold sp114 at h
 split at h
 ·simp only [Option.map_eq_some_iff] at h; obtain ⟨l, _, rfl⟩ := h; rfl
 ·cases h
noncomputable def cJA : Itr
 | 165 => some (flatFn sp165)
 | _ => none
theorem cJA_sound : Sound (dX cJA) := dX_sound (fun f g h => by
 unfold cJA at h
 split at h
 ·cases h; exact F165
 ·cases h)
theorem F114 : IntrFn Tryz.prog 114 (flatFn sp114) := by
 refine flat_fn (X := dX cJA) cJA_sound p114 ?_
 intro args v h
 unfold sp114 at h
 split at h
 ·rename_i a xl xh yl yh
  simp only [Option.map_eq_some_iff] at h
  obtain ⟨l, hl, rfl⟩ := h
  have hout := sl_out hl
  have hb := idxOf_any (fun p => bxEq ⟨⟨xl, xh⟩, ⟨yl, yh⟩⟩ p) l
  rw [← hb]
  have k165 : ∀ h, Cl (dX cJA) 165 [a, .agg [.int .i64 xl, .int .i64 xh, .int .i64 yl, .int .i64 yh]] h (.ret (.int .i64 (idxOf (fun p => bxEq ⟨⟨xl, xh⟩, ⟨yl, yh⟩⟩ p) l)) h none) := fun h => Cl.intr (g := flatFn sp165) rfl (by
   have e : viewV h (.agg [.int .i64 xl, .int .i64 xh, .int .i64 yl, .int .i64 yh]) = some (.agg [.int .i64 xl, .int .i64 xh, .int .i64 yl, .int .i64 yh]) := view_pur rfl
   simp [flatFn, viewVs, view_pur (sl_pur hl), e, sp165, hl])
  generalize idxOf (fun p => bxEq ⟨⟨xl, xh⟩, ⟨yl, yh⟩⟩ p) l = n at *
  clear hl hb
  refine ClR.walk (c := _) rfl Tryz.func114 rfl (by kernel_rfl) rfl isRet_fail ?_
  simp only [entryEnv, Nat.reduceAdd, emptyHp]
  repeat' (first | refine goS ?_ | (apply U6; exact Z1; exact Z1; (focus (simp only [List.nil_append, List.append_nil]; first | exact k165 _)); simp only [pM, pN, rR, rP]) | refine go2 (fun hh => ?_) (fun hh => ?_) | fail)
  all_goals (simp only [resV_def (X := dX cJA) Tryz.func114, Tryz.results114]; first | exact J5 | refine J6 ?_)
 ·cases h
theorem K114 {X : Ctx} (hX : X.intr 114 = some (flatFn sp114)) (a : AV) (l : List Bx) (y : Bx) (h : Heap) (b : Blt h a 4 (l.map bxC.enc)) (hm : l.length ≤ maxL) : Cl X 114 [a, .agg [.int .i64 y.x.lo, .int .i64 y.x.hi, .int .i64 y.y.lo, .int .i64 y.y.hi]] h (.ret (.bool (l.any fun p => bxEq y p)) h none) :=
 Cl.intr hX (by
  have e1 := b.seen (enc_pur bxC l)
  have e2 : slV bxC (slN (l.map bxC.enc)) = some l := slV_slN hm
  have e3 : viewV h (.agg [.int .i64 y.x.lo, .int .i64 y.x.hi, .int .i64 y.y.lo, .int .i64 y.y.hi]) = some (.agg [.int .i64 y.x.lo, .int .i64 y.x.hi, .int .i64 y.y.lo, .int .i64 y.y.hi]) := view_pur rfl
  simp [flatFn, viewVs, e1, e3, sp114, e2])
structure BA where
 ha : AV
 err : Int
 ps : ha.pur = true
def butC : Cd BA where
 enc m := .agg [m.ha, .int .i64 m.err]
 dec a := match a with
  | .agg [ha, .int .i64 e] => if p : ha.pur = true then some ⟨ha, e, p⟩ else none
  | _ => none
 de m := by simp [m.ps]
 ed a x h := by
  split at h
  ·split at h
   ·cases h; rfl
   ·cases h
  ·cases h
 pur m := by simp [AV.pur, AV.purL, m.ps]
def BA.holes (m : BA) : List Pt := (slV ptC m.ha).getD []
def BA.ok (m : BA) : Bool := (slV ptC m.ha).isSome
theorem BA.ok_is {m : BA} (h : m.ok = true) : slV ptC m.ha = some m.holes := by
 unfold BA.ok at h
 simp only [Option.isSome_iff_exists] at h
 obtain ⟨a, ha⟩ := h
 simp [BA.holes, ha]
theorem BA.cells {m : BA} (h : m.ok = true) : m.ha.cells = [m.ha] := (slV_is (BA.ok_is h)).1.cells
theorem but_idx {a : AV} {l : List BA} (h : slV butC a = some l) {k : Nat} {m : BA} (hp : l[k]? = some m) (hc : m.ha.cells.length = 1) (H : Heap) : indexAddrV Tryz.prog H 70 a (.int .i64 ↑k) = some (.vptr [m.ha, .int .i64 m.err]) :=
 (slV_is h).1.idx (x := butC.enc m) Tryz.underlying70 ty_lay77 (by simp [hp]) rfl
set_option maxHeartbeats 400000 in
theorem C161 (c : Itr) (hc : c 161 = none) (a : AV) (l : List BA) (ha : slV butC a = some l) (hok : l.all BA.ok = true) (g : FuncId) (first capt : List AV) (pb : BA → Bool) (h : Heap)
    (hcall : ∀ p : BA, p ∈ l → Cl (dX c) g ((first ++ [butC.enc p]) ++ capt) h (.ret (.bool (pb p)) h none)) : Cl (dX c) 161 [a, .func (.func g) first capt] h (.ret (.int .i64 (idxOf pb l)) h none) := by
  refine ClR.cl ?_
  have hlen := sl_len ha
  have hout := sl_out ha
  have hmax := sl_max ha
  refine ClR.walk (c := _) hc Tryz.func161 rfl (by kernel_rfl) rfl (fun e => by cases e) ?_
  simp only [entryEnv, Nat.reduceAdd]
  repeat' (first | refine goS ?_ | refine go2 (fun hh => ?_) (fun hh => ?_) | fail)
  refine W.loopN l.length (fun k F => ∃ e, F = Fr.mk 161 false e .nil h [] none ∧ (l.take k).all (fun x => !pb x) = true ∧ e.get 0 = some a ∧ e.get 1 = some (.func (.func g) first capt) ∧ e.get 7 = some (.int .i64 ↑l.length) ∧ e.get 8 = some (.int .i64 ↑k) ∧ k ≤ l.length) ?_ ?_
  · refine ⟨_, rfl, ?_, ?_, ?_, ?_, ?_, ?_⟩ <;> simp [go_sem, *]
  rintro k F ⟨e, rfl, hall, h0, h1, h7, h8, hk⟩
  have HA := Lib.hid hall
  clear hall
  by_cases hlt : k < l.length
  · obtain ⟨p, hp⟩ := get_some hlt
    have hpo := List.all_eq_true.1 hok p (List.mem_of_getElem? hp)
    have c1 := BA.cells hpo
    have hix := but_idx ha hp (by rw [c1]; rfl)
    have q1 := BA.ok_is hpo
    have o1 := sl_out q1
    obtain ⟨n1, t1⟩ := sl_one q1
    have hcl := hcall p (List.mem_of_getElem? hp)
    have hd : decide ((k : Int) < (l.length : Int)) = true := by simpa using hlt
    have hw := wrap_succ hlt hmax
    have hnx := take_next hp
    have HI : pb p = true → idxOf pb l = k := idxOf_at HA.out hp
    have HH := Lib.hid HI
    clear ha hcall hp HI hok hpo q1
    simp only [butC] at hcl
    simp only [AV.cells] at c1
    repeat' (first | (apply U6; exact Z1; exact Z1; (focus (exact hcl)); simp only [pM, pN, rR, rP]) | refine go1 ?_ | refine go2 (fun hh => ?_) (fun hh => ?_) | fail)
    all_goals first
      | (refine ⟨hlt, _, rfl, ?_, ?_, ?_, ?_, ?_, by omega⟩
         · have := HA.out
           rw [hnx]; simp_all
         all_goals exact Z2)
      | ((simp only [resV_def (X := dX c) Tryz.func161, Tryz.results161]; first | exact J5 | refine J6 ?_)
         have := HH.out hh
         simp [isR, frzRes, dX_frz, dFrz, this])
  · have hd : decide ((k : Int) < (l.length : Int)) = false := by simpa using hlt
    have hkl : k = l.length := by omega
    have h2 := HA.out
    rw [hkl, List.take_length] at h2
    have HI := Lib.hid (idxOf_none h2)
    clear ha hcall h2 hkl hok
    repeat' (first | refine goS ?_ | refine go2 (fun hh => ?_) (fun hh => ?_) | fail)
    all_goals (simp only [resV_def (X := dX c) Tryz.func161, Tryz.results161]; first | exact J5 | refine J6 ?_)
    have := HI.out
    simp [isR, frzRes, dX_frz, dFrz, this]
theorem C110 (c : Itr) (hc : c 161 = none) (hc2 : c 110 = none) (a : AV) (l : List BA) (ha : slV butC a = some l) (hok : l.all BA.ok = true) (g : FuncId) (first capt : List AV) (pb : BA → Bool) (h : Heap)
  (hcall : ∀ p : BA, p ∈ l → Cl (dX c) g ((first ++ [butC.enc p]) ++ capt) h (.ret (.bool (pb p)) h none)) : Cl (dX c) 110 [a, .func (.func g) first capt] h (.ret (.bool (l.any pb)) h none) := by
 refine ClR.cl ?_
 have hcl := C161 c hc a l ha hok g first capt pb h hcall
 have hout := sl_out ha
 have hb := idxOf_any pb l
 clear ha hcall hok
 refine ClR.walk (c := _) hc2 Tryz.func110 rfl (by kernel_rfl) rfl (fun e => by cases e) ?_
 simp only [entryEnv, Nat.reduceAdd]
 repeat' (first | (apply U6; exact Z1; exact Z1; (focus (exact hcl)); simp only [pM, pN, rR, rP]) | refine go1 ?_ | refine go2 (fun hh => ?_) (fun hh => ?_) | fail)
 all_goals (simp only [resV_def (X := dX c) Tryz.func110, Tryz.results110]; first | exact J5 | refine J6 ?_)
 simp [isR, frzRes, dX_frz, dFrz, hb]
set_option maxHeartbeats 1000000 in
theorem C111 (c : Itr) (hc : c 111 = none) (hc2 : c 112 = some (pureFn sp112)) (b : Nat) (m : BA) (hok : m.ok = true) (sa ra : AV) (st : List Pt) (rs : List Rdg) (cx cy wx wy : Sp) (hl : slV ptC sa = some st) (hr : slV rdgC ra = some rs) (h : Heap) (hb : h.get b = some (.var [sa, .int .i64 cx.lo, .int .i64 cx.hi, .int .i64 cy.lo, .int .i64 cy.hi, .int .i64 wx.lo, .int .i64 wx.hi, .int .i64 wy.lo, .int .i64 wy.hi, ra])) :
  Cl (dX c) 111 (([] ++ [butC.enc m]) ++ [.ptr b 0]) h (.ret (.bool (!suitB (machB st cx cy wx wy rs) st m.holes m.err)) h none) := by
 refine ClR.cl ?_
 have c1 := BA.cells hok
 have q1 := BA.ok_is hok
 have o1 := sl_out q1
 have o2 := sl_out hl
 have o3 := sl_out hr
 obtain ⟨n1, t1⟩ := sl_one q1
 obtain ⟨n2, t2⟩ := sl_one hl
 obtain ⟨n3, t3⟩ := sl_one hr
 have k112 := fun hp => K112 (X := dX c) hc2 sa ra m.ha st m.holes rs cx cy wx wy m.err hl hr q1 hp
 generalize suitB (machB st cx cy wx wy rs) st m.holes m.err = su at *
 obtain ⟨hn, hm⟩ := h
 simp only [hp_get] at hb
 simp only [AV.cells] at c1
 simp only [butC, List.nil_append, List.cons_append]
 clear hl hr q1 hok
 refine ClR.walk (c := _) hc Tryz.func111 rfl (by kernel_rfl) rfl (fun e => by cases e) ?_
 simp only [entryEnv, Nat.reduceAdd]
 repeat' (first | refine goS ?_ | (apply U6; exact Z1; exact Z1; (focus (simp only [List.nil_append, List.append_nil]; first | exact k112 _)); simp only [pM, pN, rR, rP]) | refine go2 (fun hh => ?_) (fun hh => ?_) | fail)
 all_goals (simp only [resV_def (X := dX c) Tryz.func111, Tryz.results111]; first | exact J5 | refine J6 ?_)
 all_goals simp [isR, frzRes, dX_frz, dFrz]
end Go.AM
namespace Go.AM
open Go
variable [Keep]
theorem lexB_self : ∀ a : List Nat, lexB a a = false := by
 intro a
 induction a with
 | nil => rfl
 | cons x a ih => simp [lexB, ih]
theorem lexB_anti : ∀ {a b : List Nat}, lexB a b = false → lexB b a = false → a = b := by
 intro a
 induction a with
 | nil =>
  intro b h _
  cases b with
  | nil => rfl
  | cons y b => simp [lexB] at h
 | cons x a ih =>
  intro b h k
  cases b with
  | nil => simp [lexB] at k
  | cons y b =>
   simp only [lexB] at h k
   by_cases e : x = y
   ·subst e
    rw [if_pos rfl] at h k
    rw [ih h k]
   ·rw [if_neg e] at h
    rw [if_neg (fun q => e q.symm)] at k
    simp only [decide_eq_false_iff_not] at h k
    omega
theorem lexB_tr : ∀ {a b d : List Nat}, lexB a b = true → lexB d b = false → lexB d a = false := by
 intro a
 induction a with
 | nil =>
  intro b d h k
  cases b with
  | nil => simp [lexB] at h
  | cons y b =>
   cases d with
   | nil => simp [lexB] at k
   | cons z d => rfl
 | cons x a ih =>
  intro b d h k
  cases b with
  | nil => simp [lexB] at h
  | cons y b =>
   cases d with
   | nil => simp [lexB] at k
   | cons z d =>
    simp only [lexB] at h k ⊢
    by_cases e : x = y
    ·subst e
     rw [if_pos rfl] at h
     by_cases e2 : z = x
     ·subst e2
      rw [if_pos rfl] at k ⊢
      exact ih h k
     ·rw [if_neg e2] at k ⊢; exact k
    ·rw [if_neg e] at h
     simp only [decide_eq_true_eq] at h
     by_cases e2 : z = y
     ·subst e2
      rw [if_neg (fun q => e q.symm)]
      simp; omega
     ·rw [if_neg e2] at k
      simp only [decide_eq_false_iff_not] at k
      rw [if_neg (by omega)]
      simp; omega
def minT (l : List (List Nat)) : Option (List Nat) := l.foldl (fun acc x => match acc with | none => some x | some b => if lexB x b then some x else some b) none
theorem minT_go : ∀ (l : List (List Nat)) (s : List Nat), ∃ b, l.foldl (fun acc x => match acc with | none => some x | some b => if lexB x b then some x else some b) (some s) = some b ∧ (b = s ∨ b ∈ l) ∧ lexB s b = false ∧ ∀ x ∈ l, lexB x b = false := by
 intro l
 induction l with
 | nil => intro s; exact ⟨s, rfl, .inl rfl, lexB_self s, by simp⟩
 | cons x r ih =>
  intro s
  rw [List.foldl_cons]
  cases h : lexB x s with
  | true =>
   simp only [h, if_true]
   obtain ⟨b, h1, h2, h3, h4⟩ := ih x
   refine ⟨b, h1, .inr ?_, ?_, fun z hz => ?_⟩
   ·rcases h2 with rfl | h2
    ·simp
    ·simp [h2]
   ·cases hs : lexB s b with
    | false => rfl
    | true =>
     have := lexB_tr h (lexB_tr hs (lexB_self b))
     exact absurd (lexB_tr hs h3) (by rw [h]; simp)
   ·rcases List.mem_cons.1 hz with rfl | hz
    ·exact h3
    ·exact h4 z hz
  | false =>
   simp only [h, Bool.false_eq_true, if_false]
   obtain ⟨b, h1, h2, h3, h4⟩ := ih s
   refine ⟨b, h1, ?_, h3, fun z hz => ?_⟩
   ·rcases h2 with rfl | h2
    ·exact .inl rfl
    ·exact .inr (by simp [h2])
   ·rcases List.mem_cons.1 hz with rfl | hz
    ·cases hs : lexB z b with
     | false => rfl
     | true =>
      rcases h2 with rfl | h2
      ·rw [h] at hs; cases hs
      ·exact absurd (lexB_tr hs h3) (by
        intro q
        have := lexB_anti q h
        subst this
        rw [h3] at hs; cases hs)
    ·exact h4 z hz
theorem minT_none {l : List (List Nat)} : minT l = none → l = [] := by
 intro h
 cases l with
 | nil => rfl
 | cons x r =>
  obtain ⟨b, h1, _⟩ := minT_go r x
  have : minT (x :: r) = some b := h1
  rw [this] at h; cases h
theorem minT_some {l : List (List Nat)} {b : List Nat} (h : minT l = some b) : b ∈ l ∧ ∀ x ∈ l, lexB x b = false := by
 cases l with
 | nil => simp [minT] at h
 | cons x r =>
  obtain ⟨b', h1, h2, h3, h4⟩ := minT_go r x
  have e : minT (x :: r) = some b' := h1
  rw [e] at h
  cases h
  refine ⟨?_, fun z hz => ?_⟩
  ·rcases h2 with rfl | h2
   ·simp
   ·simp [h2]
  ·rcases List.mem_cons.1 hz with rfl | hz
   ·exact h3
   ·exact h4 z hz
def heldB (n : Nat) (y : Bx) : Held := ⟨n, y.x, y.y⟩
def waysTo (pos : List Held → Bool) (n : Nat) (bs : List Bx) (ways : List (List Held)) : List (List Held) := ways.flatMap fun w => (bs.map fun y => w ++ [heldB n y]).filter pos
def srchT (pos : List Held → Bool) : List (List Bx) → List Nat → List (List Held) → Option (List Nat)
 | [], now, _ => some now
 | bs :: r, now, ways => (List.range 12).findSome? fun i => if now.contains (i + 1) then none else if (waysTo pos (i + 1) bs ways).isEmpty then none else srchT pos r (now ++ [i + 1]) (waysTo pos (i + 1) bs ways)
def refT (pos : List Held → Bool) : List (List Bx) → List Held → List Nat → Option (List Nat)
 | [], _, _ => some []
 | bs :: r, w, used => (List.range 12).findSome? fun i => if used.contains (i + 1) then none else (minT (bs.filterMap fun y => if pos (w ++ [heldB (i + 1) y]) then refT pos r (w ++ [heldB (i + 1) y]) (used ++ [i + 1]) else none)).map ((i + 1) :: ·)
def FeasT (pos : List Held → Bool) : List (List Bx) → List Held → List Nat → List Nat → Prop
 | [], _, _, t => t = []
 | bs :: r, w, used, t => ∃ i t', t = (i + 1) :: t' ∧ i < 12 ∧ used.contains (i + 1) = false ∧ ∃ y ∈ bs, pos (w ++ [heldB (i + 1) y]) = true ∧ FeasT pos r (w ++ [heldB (i + 1) y]) (used ++ [i + 1]) t'
theorem lexB_head {a b : Nat} {x y : List Nat} : lexB (a :: x) (b :: y) = false ↔ b < a ∨ (a = b ∧ lexB x y = false) := by
 simp only [lexB]
 by_cases e : a = b
 ·subst e; simp
 ·rw [if_neg e]; simp; omega
theorem refT_spec (pos : List Held → Bool) : ∀ (bss : List (List Bx)) (w : List Held) (used : List Nat), (refT pos bss w used = none → ∀ t, ¬ FeasT pos bss w used t) ∧ (∀ t, refT pos bss w used = some t → FeasT pos bss w used t ∧ ∀ t', FeasT pos bss w used t' → lexB t' t = false) := by
 intro bss
 induction bss with
 | nil =>
  intro w used
  refine ⟨fun h => by simp [refT] at h, fun t h => ?_⟩
  simp only [refT, Option.some.injEq] at h
  subst h
  refine ⟨rfl, fun t' h => ?_⟩
  have : t' = [] := h
  subst this; rfl
 | cons bs r ih =>
  intro w used
  refine ⟨fun h => ?_, fun t h => ?_⟩
  ·rintro t ⟨i, t', rfl, hi, hu, y, hy, hp, hf⟩
   have := List.findSome?_eq_none_iff.1 h i (List.mem_range.2 hi)
   simp only [hu, Bool.false_eq_true, if_false, Option.map_eq_none_iff] at this
   have h2 := minT_none this
   have h3 := List.filterMap_eq_nil_iff.1 h2 y hy
   rw [if_pos hp] at h3
   exact (ih _ _).1 h3 _ hf
  ·obtain ⟨i, hi, h1, h2⟩ := find_spec h
   split at h1
   ·cases h1
   rename_i hu
   rw [Option.map_eq_some_iff] at h1
   obtain ⟨b, hb, rfl⟩ := h1
   obtain ⟨hb1, hb2⟩ := minT_some hb
   obtain ⟨y, hy, hy2⟩ := List.mem_filterMap.1 hb1
   split at hy2
   ·rename_i hp
    obtain ⟨q1, q2⟩ := (ih _ _).2 _ hy2
    refine ⟨⟨i, b, rfl, hi, by simpa using hu, y, hy, hp, q1⟩, ?_⟩
    rintro t' ⟨j, s, rfl, hj, hju, z, hz, hpz, hfz⟩
    rw [lexB_head]
    rcases Nat.lt_trichotomy j i with q | q | q
    ·exfalso
     have := h2 j q
     simp only [hju, Bool.false_eq_true, if_false, Option.map_eq_none_iff] at this
     have h3 := List.filterMap_eq_nil_iff.1 (minT_none this) z hz
     rw [if_pos hpz] at h3
     exact (ih _ _).1 h3 _ hfz
    ·subst q
     refine .inr ⟨rfl, ?_⟩
     cases hr : refT pos r (w ++ [heldB (j + 1) z]) (used ++ [j + 1]) with
     | none => exact absurd hfz ((ih _ _).1 hr s)
     | some s' =>
      have hs := ((ih _ _).2 _ hr).2 _ hfz
      have hm : s' ∈ bs.filterMap fun y => if pos (w ++ [heldB (j + 1) y]) then refT pos r (w ++ [heldB (j + 1) y]) (used ++ [j + 1]) else none :=
       List.mem_filterMap.2 ⟨z, hz, by rw [if_pos hpz]; exact hr⟩
      have hb3 := hb2 _ hm
      cases hc : lexB s b with
      | false => rfl
      | true =>
       have h4 := lexB_tr hc hb3
       have h5 := lexB_anti hs h4
       subst h5
       rw [hb3] at hc; cases hc
    ·exact .inl (by omega)
   ·cases hy2
theorem waysTo_mem {pos : List Held → Bool} {n : Nat} {bs : List Bx} {ways : List (List Held)} {v : List Held} : v ∈ waysTo pos n bs ways ↔ ∃ w ∈ ways, ∃ y ∈ bs, v = w ++ [heldB n y] ∧ pos v = true := by
 unfold waysTo
 rw [List.mem_flatMap]
 constructor
 ·rintro ⟨w, hw, h⟩
  obtain ⟨h1, h2⟩ := List.mem_filter.1 h
  obtain ⟨y, hy, rfl⟩ := List.mem_map.1 h1
  exact ⟨w, hw, y, hy, rfl, h2⟩
 ·rintro ⟨w, hw, y, hy, rfl, h2⟩
  exact ⟨w, hw, List.mem_filter.2 ⟨List.mem_map.2 ⟨y, hy, rfl⟩, h2⟩⟩
theorem srchT_spec (pos : List Held → Bool) : ∀ (bss : List (List Bx)) (now : List Nat) (ways : List (List Held)), ways ≠ [] →
  (srchT pos bss now ways = none → ∀ w ∈ ways, ∀ t, ¬ FeasT pos bss w now t) ∧ (∀ s, srchT pos bss now ways = some s → ∃ t, s = now ++ t ∧ (∃ w ∈ ways, FeasT pos bss w now t) ∧ ∀ w ∈ ways, ∀ t', FeasT pos bss w now t' → lexB t' t = false) := by
 intro bss
 induction bss with
 | nil =>
  intro now ways hw
  refine ⟨fun h => by simp [srchT] at h, fun s h => ?_⟩
  simp only [srchT, Option.some.injEq] at h
  subst h
  obtain ⟨w, hw⟩ := List.exists_mem_of_ne_nil _ hw
  refine ⟨[], by simp, ⟨w, hw, rfl⟩, fun w' _ t' h => ?_⟩
  have : t' = [] := h
  subst this; rfl
 | cons bs r ih =>
  intro now ways hw
  refine ⟨fun h => ?_, fun s h => ?_⟩
  ·rintro w hw t ⟨i, t', rfl, hi, hu, y, hy, hp, hf⟩
   have := List.findSome?_eq_none_iff.1 h i (List.mem_range.2 hi)
   simp only [hu, Bool.false_eq_true, if_false] at this
   have hm : w ++ [heldB (i + 1) y] ∈ waysTo pos (i + 1) bs ways := waysTo_mem.2 ⟨w, hw, y, hy, rfl, hp⟩
   split at this
   ·rename_i he
    rw [List.isEmpty_iff.1 he] at hm; cases hm
   ·rename_i he
    exact (ih _ _ (fun e => by rw [e] at he; simp at he)).1 this _ hm _ hf
  ·obtain ⟨i, hi, h1, h2⟩ := find_spec h
   split at h1
   ·cases h1
   rename_i hu
   split at h1
   ·cases h1
   rename_i he
   obtain ⟨t, ht1, ⟨v, hv, hvf⟩, ht3⟩ := (ih _ _ (fun e => by rw [e] at he; simp at he)).2 _ h1
   obtain ⟨w, hw', y, hy, rfl, hp⟩ := waysTo_mem.1 hv
   refine ⟨(i + 1) :: t, by rw [ht1]; simp, ⟨w, hw', i, t, rfl, hi, by simpa using hu, y, hy, hp, hvf⟩, ?_⟩
   rintro w2 hw2 t' ⟨j, s', rfl, hj, hju, z, hz, hpz, hfz⟩
   have hm : w2 ++ [heldB (j + 1) z] ∈ waysTo pos (j + 1) bs ways := waysTo_mem.2 ⟨w2, hw2, z, hz, rfl, hpz⟩
   rw [lexB_head]
   rcases Nat.lt_trichotomy j i with q | q | q
   ·exfalso
    have := h2 j q
    simp only [hju, Bool.false_eq_true, if_false] at this
    split at this
    ·rename_i he
     rw [List.isEmpty_iff.1 he] at hm; cases hm
    ·rename_i he
     exact (ih _ _ (fun e => by rw [e] at he; simp at he)).1 this _ hm _ hfz
   ·subst q
    exact .inr ⟨rfl, ht3 _ hm _ hfz⟩
   ·exact .inl (by omega)
theorem srch_ref (pos : List Held → Bool) (bss : List (List Bx)) : srchT pos bss [] [[]] = refT pos bss [] [] := by
 obtain ⟨a1, a2⟩ := srchT_spec pos bss [] [[]] (by simp)
 obtain ⟨b1, b2⟩ := refT_spec pos bss [] []
 cases hs : srchT pos bss [] [[]] with
 | none => cases hr : refT pos bss [] [] with
  | none => rfl
  | some t => exact absurd (b2 _ hr).1 (a1 hs [] (by simp) t)
 | some s =>
  obtain ⟨t, h1, ⟨w, hw, hf⟩, h3⟩ := a2 _ hs
  simp only [List.mem_singleton] at hw
  subst hw
  simp only [List.nil_append] at h1
  subst h1
  cases hr : refT pos bss [] [] with
  | none => exact absurd hf (b1 hr s)
  | some t =>
   obtain ⟨q1, q2⟩ := b2 _ hr
   rw [lexB_anti (q2 _ hf) (h3 [] (by simp) _ q1)]
end Go.AM
namespace Go.AM
open Go
variable [Keep]
attribute [local irreducible] boundsS
theorem feas_is (pos : List Held → Bool) : ∀ (bss : List (List Bx)) (w : List Held) (used t : List Nat), FeasT pos bss w used t → t.length = bss.length ∧ (∀ k ∈ t, (1 ≤ k ∧ k ≤ 12) ∧ k ∉ used) ∧ t.Nodup := by
 intro bss
 induction bss with
 | nil => intro w used t h; have : t = [] := h; subst this; simp
 | cons bs r ih =>
  rintro w used t ⟨i, t', rfl, hi, hu, y, hy, hp, hf⟩
  obtain ⟨h1, h2, h3⟩ := ih _ _ _ hf
  have hu' : i + 1 ∉ used := by simpa using hu
  refine ⟨by simp [h1], fun k hk => ?_, ?_⟩
  ·rcases List.mem_cons.1 hk with rfl | hk
   ·exact ⟨by omega, hu'⟩
   ·obtain ⟨q1, q2⟩ := h2 k hk
    exact ⟨q1, fun q => q2 (by simp [q])⟩
  ·rw [List.nodup_cons]
   exact ⟨fun q => (h2 _ q).2 (by simp), h3⟩
def posH (cx cy wx wy : Sp) (rs : List Rdg) (ms : List Held) : Bool := (boundsS (ax0 cx wx rs ms)).isSome && (boundsS (ax1 cy wy rs ms)).isSome
section
variable {ss : List Pt} {cx cy wx wy : Sp} {rs : List Rdg} (h : machB ss cx cy wx wy rs = true)
include h
variable {xs ys : List Int} (ht : truthB xs ys = true) (hf : fitsM cx cy wx wy rs xs ys = true)
include ht hf
end
end Go.AM
namespace Go.AM
open Go Go.Proofs
variable [Keep]
attribute [local irreducible] W WO WO1 WD WQ WT thenQ blockQ endR isRet retK Cl ClR
attribute [local irreducible] isNew roundQ RdR boundsS machB boxL suitB
def clS (sz : Nat) (h : Heap) (l : List AV) (r : COut) : Prop := ∃ v h', r = .ret v h' none ∧ BltN h.next h' v sz l ∧ HExt h h'
theorem clS_fail {sz : Nat} {h : Heap} {l : List AV} : ¬ clS sz h l .fail := by rintro ⟨_, _, e, _⟩; cases e
theorem clS_ret {sz : Nat} {h h' : Heap} {v : AV} {l : List AV} (b : BltN h.next h' v sz l) (x : HExt h h') : clS sz h l (.ret v h' none) := ⟨v, h', rfl, b, x⟩
attribute [local irreducible] clS
theorem eq173n : binV Tryz.prog .eql 173 true .nilslice .nilslice = some (.bool true) := by
 simp [binV, eqOp, eqV, isSliceT, whenB, Tryz.underlying173]
theorem eq173r (id n : Nat) : binV Tryz.prog .eql 173 true (.row id 0 n) .nilslice = some (.bool false) := by
 simp [binV, eqOp, eqV, isSliceT, whenB, Tryz.underlying173]
theorem C117 (c : Itr) (hc : c 117 = none) (a : AV) (w : List Held) (h : Heap) (b : Blt h a 5 (w.map heldC.enc)) (hm : w.length ≤ 1000) : ClR (dX c) 117 [a] h (clS 5 h (w.map heldC.enc)) := by
 have hsz : ∀ v ∈ w.map heldC.enc, v.cells.length = 5 := fun v hv => by
  obtain ⟨k, _, rfl⟩ := List.mem_map.1 hv
  rfl
 have hlen : (w.map heldC.enc).length ≤ most := by rw [List.length_map]; unfold most; omega
 refine ClR.walk (c := _) hc Tryz.func117 rfl (by kernel_rfl) rfl clS_fail ?_
 simp only [entryEnv, Nat.reduceAdd]
 rcases b with ⟨rfl, hnil⟩ | ⟨id, rfl, hg, hid, hne⟩
 ·have HN := Lib.hid hnil
  have hq := eq173n
  clear hsz hlen hnil
  repeat' (first | refine goS ?_ | refine go2 (fun hh => ?_) (fun hh => ?_) | fail)
  all_goals (simp only [resV_def (X := dX c) Tryz.func117, Tryz.results117]; first | exact J5 | refine J6 ?_)
  rw [HN.out]
  exact clS_ret BltN.nil (HExt.refl h)
 ·have hel : h.elems (.row id 0 (w.map heldC.enc).length) = some (w.map heldC.enc) := Blt.elems (sz := 5) (.inr ⟨id, rfl, hg, hid, hne⟩)
  have hq := eq173r id (w.map heldC.enc).length
  have HG := Lib.hid hg
  have HI := Lib.hid hid
  clear hg hid
  repeat' (first | (apply WO1.append0 (t := 173) (u := 173) (e := 176) (e' := 176) (sz := 5) (tl := []) (new := w.map heldC.enc) (hx := .inl rfl); exact Z1; exact rfl; exact Z2; exact Z2; exact Z2; (focus (exact ty_row173)); (focus (first | exact Z2 | exact hel)); (focus (exact hsz)); (focus (exact hlen)); (focus (exact hne)); simp only [pM, pN]) | refine go1 ?_ | refine go2 (fun hh => ?_) (fun hh => ?_) | fail)
  all_goals (simp only [resV_def (X := dX c) Tryz.func117, Tryz.results117]; first | exact J5 | refine J6 ?_)
  refine clS_ret (.inr ⟨h.next, rfl, ?_, Nat.le_refl _, Nat.lt_succ_self _, hne⟩) (hext_new _ _)
  rw [Heap.get_new, if_pos rfl]
def ElemsC {α : Type} (c : Cd α) (sz : Nat) (h : Heap) (es : List AV) (ps : List (List α)) : Prop := es.length = ps.length ∧ ∀ (i : Nat) (r : AV) (p : List α), es[i]? = some r → ps[i]? = some p → Blt h r sz (p.map c.enc)
section
variable {α : Type} {c : Cd α} {sz : Nat} {h h' : Heap} {es : List AV} {ps : List (List α)}
theorem ElemsC.ext (q : ElemsC c sz h es ps) (k : HExt h h') : ElemsC c sz h' es ps := ⟨q.1, fun i r p h1 h2 => (q.2 i r p h1 h2).ext k⟩
theorem ElemsC.nil : ElemsC c sz h [] [] := ⟨rfl, fun i r p h1 => by simp at h1⟩
theorem ElemsC.add {r : AV} {p : List α} (q : ElemsC c sz h es ps) (b : Blt h r sz (p.map c.enc)) : ElemsC c sz h (es ++ [r]) (ps ++ [p]) := by
 refine ⟨by simp [q.1], fun i r' p' h1 h2 => ?_⟩
 have hl := q.1
 rcases Nat.lt_trichotomy i es.length with c | c | c
 ·rw [List.getElem?_append_left c] at h1
  rw [List.getElem?_append_left (by omega)] at h2
  exact q.2 i r' p' h1 h2
 ·subst c
  rw [List.getElem?_append_right (Nat.le_refl _)] at h1
  rw [hl, List.getElem?_append_right (Nat.le_refl _)] at h2
  simp at h1 h2
  subst h1 h2
  exact b
 ·rw [List.getElem?_eq_none (by simp; omega)] at h1
  cases h1
theorem Blt.other {v w : AV} {s1 s2 : Nat} {l m : List AV} (b : Blt h v s1 l) (bw : Blt h w s2 m) (hne : s1 ≠ s2) (k : Keeps h h' w) : Blt h' v s1 l := by
 rcases b with q | ⟨j, q1, q2, q3, q4⟩
 ·exact .inl q
 ·refine .inr ⟨j, q1, ?_, Nat.lt_of_lt_of_le q3 k.1, q4⟩
  rw [k.2 j q3 fun o n e => ?_]
  ·exact q2
  ·rcases bw with ⟨s, _⟩ | ⟨i, r1, r2, _, _⟩
   ·rw [s] at e; cases e
   ·rw [r1] at e
    cases e
    rw [q2] at r2
    have r2 := Option.some.inj r2
    cases r2
    exact hne rfl
theorem ElemsC.other {w : AV} {s2 : Nat} {m : List AV} (q : ElemsC c sz h es ps) (bw : Blt h w s2 m) (hne : sz ≠ s2) (k : Keeps h h' w) : ElemsC c sz h' es ps := ⟨q.1, fun i r p h1 h2 => (q.2 i r p h1 h2).other bw hne k⟩
end
def RdW (h : Heap) (v : AV) (ws : List (List Held)) : Prop := ∃ es, ((v = .vslice es ∧ es ≠ []) ∨ Blt h v 1 es) ∧ ElemsC heldC 5 h es ws
theorem RdW.ext {h h' : Heap} {v : AV} {ws : List (List Held)} (q : RdW h v ws) (k : HExt h h') : RdW h' v ws := by
 obtain ⟨es, q1, q2⟩ := q
 refine ⟨es, ?_, q2.ext k⟩
 rcases q1 with q1 | q1
 ·exact .inl q1
 ·exact .inr (q1.ext k)
theorem RdW.len {h : Heap} {v : AV} {ws : List (List Held)} (q : RdW h v ws) : lenS v = some ws.length := by
 obtain ⟨es, q1, q2⟩ := q
 rw [← q2.1]
 rcases q1 with ⟨rfl, _⟩ | q1
 ·rfl
 ·exact q1.len
theorem RdW.out {h : Heap} {v : AV} {ws : List (List Held)} (q : RdW h v ws) : outV (some v) = some v := by
 obtain ⟨es, q1, q2⟩ := q
 rcases q1 with ⟨rfl, _⟩ | q1
 ·rfl
 ·exact q1.out
theorem RdW.tup {h : Heap} {v : AV} {ws : List (List Held)} (q : RdW h v ws) : isTuple v = false := by
 obtain ⟨es, q1, q2⟩ := q
 rcases q1 with ⟨rfl, _⟩ | q1
 ·rfl
 ·exact q1.tup
theorem RdW.idx {h : Heap} {v : AV} {ws : List (List Held)} (q : RdW h v ws) {k : Nat} {w : List Held} (hk : ws[k]? = some w) : ∃ r, Blt h r 5 (w.map heldC.enc) ∧ ∀ hp, HExt h hp → ∃ ptr, indexAddrV Tryz.prog hp 172 v (.int .i64 ↑k) = some ptr ∧ ∀ f rnd e lm df up, (Fr.mk f rnd e lm hp df up).mem ptr = some ([r], 0) := by
 obtain ⟨es, q1, q2⟩ := q
 have hkl : k < ws.length := (List.getElem?_eq_some_iff.1 hk).1
 obtain ⟨r, hr⟩ : ∃ r, es[k]? = some r := ⟨_, List.getElem?_eq_getElem (by rw [q2.1]; exact hkl)⟩
 have b := q2.2 k r w hr hk
 refine ⟨r, b, fun hp hx => ?_⟩
 have hi : idxV (.int .i64 (k : Int)) es.length = some k := by simp [idxV, q2.1, hkl]
 have hc := b.cells
 rcases q1 with ⟨rfl, _⟩ | q1
 ·refine ⟨.vptr [r], ?_, fun f rnd e lm df up => by rw [mem_vptr]⟩
  simp only [indexAddrV, Tryz.underlying172, ty_lay173, hi, hr, hc, List.length_cons, List.length_nil, Nat.zero_add, if_true]
 ·obtain ⟨id, e1, e2⟩ := (q1.ext hx).idx (P := Tryz.prog) (t := 172) (e := 173) (ag := false) Tryz.underlying172 ty_lay173 (k := k) (by rw [q2.1]; exact hkl)
  refine ⟨_, e1, fun f rnd e lm df up => ?_⟩
  rw [mem_eptr]
  simp only [e2, hr, if_true, hc]
def NowR (h : Heap) (v : AV) (now : List Nat) : Prop := (v = .vempty ∧ now = []) ∨ Blt h v 1 (natsV now)
section
variable {h h' : Heap} {v : AV} {now : List Nat}
theorem NowR.ext (q : NowR h v now) (k : HExt h h') : NowR h' v now := by
 rcases q with q | q
 ·exact .inl q
 ·exact .inr (q.ext k)
theorem NowR.len (q : NowR h v now) : lenS v = some now.length := by
 rcases q with ⟨rfl, rfl⟩ | q
 ·rfl
 ·rw [q.len, natsV_len]
theorem NowR.out (q : NowR h v now) : outV (some v) = some v := by
 rcases q with ⟨rfl, rfl⟩ | q
 ·rfl
 ·exact q.out
theorem NowR.tup (q : NowR h v now) : isTuple v = false := by
 rcases q with ⟨rfl, rfl⟩ | q
 ·rfl
 ·exact q.tup
theorem NowR.seen (q : NowR h v now) : ∃ v', viewV h v = some v' ∧ slV intC v' = some (now.map fun k : Nat => (k : Int)) ∨ maxL < now.length := by
 rcases Nat.lt_or_ge maxL now.length with c | c
 ·exact ⟨v, .inr c⟩
 ·rcases q with ⟨rfl, rfl⟩ | q
  ·exact ⟨.vempty, .inl ⟨rfl, rfl⟩⟩
  ·exact ⟨_, .inl ⟨q.seen (natsV_pur now), by rw [natsV_ints]; exact slV_slN (by simpa using c)⟩⟩
end
theorem K116n {X : Ctx} (hX : X.intr 116 = some (flatFn sp116)) (a : AV) (p : List Nat) (v : Nat) (h : Heap) (b : NowR h a p) (hm : p.length ≤ maxL) : Cl X 116 [a, .int .i64 (v : Nat)] h (.ret (.bool (p.contains v)) h none) := by
 obtain ⟨v', q⟩ := b.seen
 rcases q with ⟨q1, q2⟩ | q
 ·have e3 := any_nats p v
  exact Cl.intr hX (by simp only [flatFn, viewVs, q1, view_pur (a := .int .i64 (v : Int)) rfl, sp116, q2, Option.map_some, e3])
 ·omega
def clN (h : Heap) (now : List Nat) (r : COut) : Prop := ∃ v h', r = .ret v h' none ∧ HExt h h' ∧ ((v = .vempty ∧ now = []) ∨ BltN h.next h' v 1 (natsV now))
theorem clN_fail {h : Heap} {now : List Nat} : ¬ clN h now .fail := by rintro ⟨_, _, e, _⟩; cases e
attribute [local irreducible] clN
theorem clN_vempty {h : Heap} : clN h [] (.ret .vempty h none) := by unfold clN; exact ⟨.vempty, h, rfl, HExt.refl h, .inl ⟨rfl, rfl⟩⟩
theorem eq39e : binV Tryz.prog .eql 39 true .vempty .nilslice = some (.bool false) := by
 simp [binV, eqOp, eqV, isSliceT, whenB, Tryz.underlying39]
theorem appVE {X : Ctx} {ops : Array Oper} {K P : AV → Fr → Prop} {F : Fr} {d : Option Tmp} {T : TypeId} {p : String} {af : Array Edge} {args : Array Operand} {at_ : Array TypeId} {t u e e' : TypeId} {tl : List TypeId} (hargs : F.opvs args.toList = some [.vempty, .vempty]) (ht : at_.toList = t :: u :: tl) (hu : X.P.underlying u = some (.slice e')) (hel : elemT X.P t = some e) (hrow : rowable X.P e = true)
  (h : K .vempty (F.put d .vempty)) : WO1 X ops ⟨d, .call ⟨.builtin .append, args, at_⟩, T, p, af, none⟩ F K P := by
 have e1 : appendV X.P F t .vempty [] = some (.vempty, F) := by simp [appendV, hel, hrow]
 refine U5 (v := .vempty) (F' := F) rfl (fun cl rd => ?_) h
 simp only [efV, Fr.callOp, Fr.builtinE, Fr.appendE, ht, hargs, hu]
 simp [Heap.elems, e1, okO]
theorem C118n (c : Itr) (hc : c 118 = none) (a : AV) (p : List Nat) (h : Heap) (b : NowR h a p) (hm : p.length ≤ 1000) : ClR (dX c) 118 [a] h (clN h p) := by
 rcases b with ⟨rfl, rfl⟩ | b
 ·refine ClR.walk (c := _) hc Tryz.func118 rfl (by kernel_rfl) rfl clN_fail ?_
  simp only [entryEnv, Nat.reduceAdd]
  have hq := eq39e
  repeat' (first | (apply appVE (t := 39) (u := 39) (e := 3) (e' := 3) (tl := []); exact Z2; exact rfl; exact Z2; exact Z2; (focus (exact ty_row39)); simp only [pM, pN]) | refine go1 ?_ | refine go2 (fun hh => ?_) (fun hh => ?_) | fail)
  all_goals (simp only [resV_def (X := dX c) Tryz.func118, Tryz.results118]; first | exact J5 | refine J6 ?_)
  exact clN_vempty
 ·have := C118 c hc a p h b hm
  unfold ClR at this ⊢
  obtain ⟨r, h1, h2⟩ := this
  refine ⟨r, h1, ?_⟩
  unfold clR at h2
  unfold clN
  obtain ⟨v, h', e, b', x⟩ := h2
  exact ⟨v, h', e, x, .inr b'⟩
section
variable {X : Ctx} {ops : Array Oper} {K P : AV → Fr → Prop} {F : Fr} {d : Option Tmp} {T : TypeId} {p : String} {af : Array Edge}
theorem WO1.appendB {args : Array Operand} {at_ : Array TypeId} {t u e e' : TypeId} {tl : List TypeId} {sz : Nat} {x y : AV} {new l : List AV} (hb : (x = .vempty ∧ l = []) ∨ Blt F.hp x sz l) (hargs : F.opvs args.toList = some [x, y]) (ht : at_.toList = t :: u :: tl) (hu : X.P.underlying u = some (.slice e'))
  (hel : elemT X.P t = some e) (hs : szT X.P e = sz) (hrow : rowable X.P e = true) (hy : F.hp.elems y = some new) (hsz : ∀ v ∈ new, v.cells.length = sz) (hlen : l.length + new.length ≤ most) (hne : new ≠ [])
  (h : ∀ v' h', Blt h' v' sz (l ++ new) → outV (some v') = some v' → Keeps F.hp h' x → v' = .row F.hp.next 0 (l ++ new).length → K v' (({ F with hp := h' } : Fr).put d v')) : WO1 X ops ⟨d, .call ⟨.builtin .append, args, at_⟩, T, p, af, none⟩ F K P := by
 rcases hb with ⟨rfl, rfl⟩ | hb
 ·refine WO1.append0 (hx := .inl rfl) hargs ht hu hel hs hrow hy hsz (by simpa using hlen) hne ?_
  refine h _ _ ?_ rfl ⟨Nat.le_succ _, fun id hid _ => by rw [Heap.get_new, if_neg (by omega)]⟩ rfl
  refine .inr ⟨F.hp.next, rfl, ?_, Nat.lt_succ_self _, by simpa using hne⟩
  rw [Heap.get_new, if_pos rfl]
  rfl
 ·exact WO1.appendE hb hargs ht hu hel hs hrow hy hsz hlen hne h
end
theorem K103r {X : Ctx} (hX : X.intr 103 = some (onHeap h103)) (sa ra mv : AV) (cx cy wx wy : Sp) (rs : List Rdg) (hr : slV rdgC ra = some rs) (hs : sa.one = true) (hm : mv.one = true) (hlen : rs.length ≤ 1000) (v : AV) (w : List Held) (hw : w.length ≤ 1000) (h : Heap) (b : Blt h v 5 (w.map heldC.enc)) :
  Cl X 103 [.agg [sa, .int .i64 cx.lo, .int .i64 cx.hi, .int .i64 cy.lo, .int .i64 cy.hi, .int .i64 wx.lo, .int .i64 wx.hi, .int .i64 wy.lo, .int .i64 wy.hi, ra, mv], v] h (.ret (knV (ax0 cx wx rs w) (ax1 cy wy rs w)) h none) :=
 Cl.intr hX (by
  have h2 : (Nat.ble (rs.length + w.length) maxL && sa.one && mv.one) = true := by
   rw [hs, hm]
   simp [Nat.ble_eq]
   unfold maxL
   omega
  rcases b with ⟨rfl, e⟩ | ⟨id, rfl, hg, hid, hne⟩
  ·have hw0 : w = [] := by simpa using e
   subst hw0
   have h1 : slV heldC .nilslice = some [] := rfl
   simp only [onHeap, h103, sp103, hr, h1, h2, if_true]
  ·have h1 : slV heldC (.vslice (w.map heldC.enc)) = some w := by
    have := slV_mk (c := heldC) (a := .vslice (w.map heldC.enc)) (l := w) (.inr rfl) (by unfold maxL; omega)
    exact this
   have h3 : (Nat.beq 5 5 && Nat.ble (0 + (w.map heldC.enc).length) (w.map heldC.enc).length && AV.purL (w.map heldC.enc)) = true := by
    rw [purL_all (enc_pur heldC w)]
    simp [Nat.ble_eq]
   have h4 : ((w.map heldC.enc).drop 0).take (w.map heldC.enc).length = w.map heldC.enc := by
    rw [List.drop_zero, List.take_length]
   simp only [onHeap, h103, hg, h3, if_true, h4, sp103, hr, h1, h2])
theorem knV_pos (cx cy wx wy : Sp) (rs : List Rdg) (w : List Held) : ∃ a b, knV (ax0 cx wx rs w) (ax1 cy wy rs w) = .tuple [.agg [a, b], .bool (posH cx cy wx wy rs w)] ∧ outV (some a) = some a ∧ outV (some b) = some b ∧ isTuple a = false ∧ isTuple b = false ∧ a.cells = [a] ∧ b.cells = [b] := by
 cases q : posH cx cy wx wy rs w with
 | false => exact ⟨.nilslice, .nilslice, kn_no q, rfl, rfl, rfl, rfl, rfl, rfl⟩
 | true =>
  unfold posH at q
  simp only [Bool.and_eq_true, Option.isSome_iff_exists] at q
  obtain ⟨⟨a, ha⟩, ⟨b, hb⟩⟩ := q
  exact ⟨_, _, by rw [knV_def, ha, hb]; rfl, (slN_is _).out, (slN_is _).out, (slN_is _).tup, (slN_is _).tup, (slN_is _).cells, (slN_is _).cells⟩
end Go.AM
