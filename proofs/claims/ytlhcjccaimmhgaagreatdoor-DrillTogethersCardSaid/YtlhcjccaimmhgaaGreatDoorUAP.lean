/-
  A part of the proof: contracts of functions.
-/
import Derived.Test.YtlhcjccaimmhgaaGreatDoorUAO
import Derived.Test.YtlhcjccaimmhgaaGreatDoorUAI
import Derived.Test.YtlhcjccaimmhgaaGreatDoorUAK
import Derived.Test.YtlhcjccaimmhgaaGreatDoorUAJ
import Derived.Test.YtlhcjccaimmhgaaGreatDoorUAM
set_option linter.unusedSectionVars false
set_option linter.unusedVariables false
set_option linter.unusedSimpArgs false
set_option maxRecDepth 100000
namespace Go.AM
open Go Go.Proofs
variable [Keep]
attribute [local irreducible] W WO WO1 WD WQ WT thenQ blockQ endR isRet retK Cl ClR
attribute [local irreducible] roundQ RdR clR ordsR lev kidsTo
theorem lev_small {n : Nat} (hn : n ≤ 4) : ∀ i, i ≤ 4 → (lev n i).length ≤ 4 ^ i := by
 intro i
 induction i with
 | zero => intro _; rw [lev_zero]; simp
 | succ i ih =>
  intro hi
  rw [lev_succ]
  have h1 := ih (by omega)
  have h3 := flat_small hn (lev n i)
  rw [Nat.pow_succ]
  omega
theorem nat_at' {k : Nat} {o : List Nat} {v : Nat} (hp : o[k]? = some v) : (natsV o)[k]? = some (.int .i64 ↑v) := by simp [natsV, hp]
set_option maxHeartbeats 8000000 in
theorem C129 (c : Itr) (hc : c 129 = none) (n : Nat) (hn1 : 1 ≤ n) (hn : n ≤ 4) (h : Heap) : ClR (dX c) 129 [.int .i64 ↑n] h (ordsR h n) := by
 refine ClR.walk (c := _) hc Tryz.func129 rfl (by kernel_rfl) rfl ordsR_fail ?_
 simp only [entryEnv, Nat.reduceAdd]
 have HN1 := Lib.hid hn1
 have HN := Lib.hid hn
 clear hn1 hn
 repeat' (first | refine goS ?_ | refine go2 (fun hh => ?_) (fun hh => ?_) | fail)
 refine W.loopN n (fun i F => ∃ e hp u es, F = Fr.mk 129 false e .nil hp [] none ∧ HExt h hp ∧ (u = .vslice es ∨ BltN h.next hp u 1 es) ∧ Elems hp es (lev n i) ∧ (1 ≤ i → RowsOf es) ∧ e.get 0 = some (.int .i64 ↑n) ∧ e.get 3 = some u ∧ e.get 4 = some (.int .i64 ↑i) ∧ i ≤ n) ?_ ?_
 ·refine ⟨_, h, _, [.nilslice], rfl, HExt.refl h, .inl rfl, ?_, fun h => absurd h (by omega), ?_, ?_, ?_, by omega⟩
  ·rw [lev_zero]
   refine ⟨rfl, fun i r p h1 h2 => ?_⟩
   cases i with
   | zero => simp at h1 h2; subst h1 h2; exact Blt.nil
   | succ i => simp at h1
  all_goals first | exact Z2 | simp [go_sem, *]
 rintro i F ⟨e, hb, u, es, rfl, hx, hu, hel, hro, h0, h3, h4, hi⟩
 have HX := Lib.hid hx
 have HU := Lib.hid hu
 have HEL := Lib.hid hel
 have HRO := Lib.hid hro
 clear hx hu hel hro
 by_cases hlt : i < n
 ·have hd : decide ((i : Int) < (n : Int)) = true := by simpa using hlt
  have hw := wrap_succ (m := n) hlt (by have := HN.out; unfold maxL; omega)
  have hes : es.length ≤ 256 := by
   have h1 := HEL.out.1
   have h2 := lev_small HN.out i (by have := HN.out; omega)
   have h3 : 4 ^ i ≤ 4 ^ 4 := Nat.pow_le_pow_right (by omega) (by have := HN.out; omega)
   omega
  have HES := Lib.hid hes
  clear hes
  repeat' (first | refine goS ?_ | refine go2 (fun hh => ?_) (fun hh => ?_) | fail)
  refine W.loopN es.length (fun k F => ∃ e hq w es', F = Fr.mk 129 false e .nil hq [] none ∧ HExt hb hq ∧ BltN hb.next hq w 1 es' ∧ Elems hq es' (((lev n i).take k).flatMap fun p => kidsTo p n) ∧ RowsOf es' ∧ e.get 0 = some (.int .i64 ↑n) ∧ e.get 3 = some u ∧ e.get 4 = some (.int .i64 ↑i) ∧ e.get 5 = some w ∧ e.get 6 = some (.int .i64 ↑k) ∧ k ≤ es.length) ?_ ?_
  ·refine ⟨_, hb, .nilslice, [], rfl, HExt.refl hb, BltN.nil, ⟨by simp, fun i r p h1 => by simp at h1⟩, fun r hr => by simp at hr, ?_, ?_, ?_, ?_, ?_, by omega⟩ <;> first | exact Z2 | simp [go_sem, *]
  clear h0 h3 h4 hd
  rintro k F ⟨e, hq, w, es', rfl, hx2, hbw, hel2, hro2, h0, h3, h4, h5, h6, hk⟩
  have HX2 := Lib.hid hx2
  have HBW := Lib.hid hbw
  have HEL2 := Lib.hid hel2
  have HRO2 := Lib.hid hro2
  clear hx2 hbw hel2 hro2
  have lu : lenS u = some es.length := by
   rcases HU.out with rfl | q
   ·rfl
   ·exact q.blt.len
  have ou : outV (some u) = some u := by
   rcases HU.out with rfl | q
   ·rfl
   ·exact q.blt.out
  by_cases hkl : k < es.length
  ·have hd : decide ((k : Int) < (es.length : Int)) = true := by simpa using hkl
   have hw2 := wrap_succ (m := es.length) hkl (by have := HES.out; unfold maxL; omega)
   obtain ⟨r, hr⟩ := get_some hkl
   obtain ⟨p, hp⟩ := get_some (show k < (lev n i).length by rw [← HEL.out.1]; exact hkl)
   have hpl := lev_len i p (List.mem_of_getElem? hp)
   have HP := Lib.hid hp
   have HRR := Lib.hid hr
   have HPL := Lib.hid hpl
   clear hr hp hpl
   repeat' (first | refine goS ?_ | refine go2 (fun hh => ?_) (fun hh => ?_) | fail)
   refine W.loopN n (fun m F => ∃ e hr w es'', F = Fr.mk 129 false e .nil hr [] none ∧ HExt hb hr ∧ BltN hb.next hr w 1 es'' ∧ Elems hr es'' ((((lev n i).take k).flatMap fun p => kidsTo p n) ++ kidsTo p m) ∧ RowsOf es'' ∧ e.get 0 = some (.int .i64 ↑n) ∧ e.get 3 = some u ∧ e.get 4 = some (.int .i64 ↑i) ∧ e.get 5 = some w ∧ e.get 6 = some (.int .i64 ↑k) ∧ e.get 7 = some (.int .i64 ↑m) ∧ m ≤ n) ?_ ?_
   ·refine ⟨_, hq, w, es', rfl, HX2.out, HBW.out, ?_, HRO2.out, ?_, ?_, ?_, ?_, ?_, ?_, by omega⟩
    ·rw [kids_zero, List.append_nil]; exact HEL2.out
    all_goals first | exact Z2 | simp [go_sem, *]
   clear h0 h3 h4 h5 h6 hd HX2 HBW HEL2 HRO2
   rintro m F ⟨e, hr, w, es'', rfl, hx3, hbw, hel3, hro3, h0, h3, h4, h5, h6, h7, hm⟩
   have HX3 := Lib.hid hx3
   have HBW := Lib.hid hbw
   have HEL3 := Lib.hid hel3
   have HRO3 := Lib.hid hro3
   clear hx3 hbw hel3 hro3
   by_cases hmn : m < n
   ·have hd : decide ((m : Int) < (n : Int)) = true := by simpa using hmn
    have hw3 := wrap_succ (m := n) hmn (by have := HN.out; unfold maxL; omega)
    have hBr : Blt hr r 1 (natsV p) := (HEL.out.2 k r p HRR.out HP.out).ext HX3.out
    have hu2 : u = .vslice es ∨ Blt hr u 1 es := by
     rcases HU.out with q | q
     ·exact .inl q
     ·exact .inr (q.blt.ext HX3.out)
    have cr := hBr.cells
    obtain ⟨ad, hix, hmem⟩ := nest_at hu2 HRR.out cr
    have lr := hBr.len
    rw [natsV_len] at lr
    have orr := hBr.out
    have tr := hBr.tup
    have ow := HBW.out.blt.out
    simp only [AV.cells] at cr
    simp only [isTuple] at tr
    clear hu2
    repeat' (first | refine goS ?_ | refine go2 (fun hh => ?_) (fun hh => ?_) | fail)
    refine W.loopN p.length (fun j F => ∃ e, F = Fr.mk 129 false e .nil hr [] none ∧ e.get 0 = some (.int .i64 ↑n) ∧ e.get 3 = some u ∧ e.get 4 = some (.int .i64 ↑i) ∧ e.get 5 = some w ∧ e.get 6 = some (.int .i64 ↑k) ∧ e.get 7 = some (.int .i64 ↑m) ∧ e.get 8 = some (.bool ((p.take j).contains m)) ∧ e.get 9 = some (.int .i64 ↑j) ∧ j ≤ p.length) ?_ ?_
    ·refine ⟨_, rfl, ?_, ?_, ?_, ?_, ?_, ?_, ?_, ?_, by omega⟩ <;> first | exact Z2 | simp [go_sem, *]
    clear h0 h3 h4 h5 h6 h7 hd
    rintro j F ⟨e, rfl, h0, h3, h4, h5, h6, h7, h8, h9, hj⟩
    by_cases hjp : j < p.length
    ·have hd : decide ((j : Int) < (p.length : Int)) = true := by simpa using hjp
     have hw4 := wrap_succ (m := p.length) hjp (by have := HPL.out; have := HN.out; unfold maxL; omega)
     obtain ⟨v, hv⟩ := get_some hjp
     obtain ⟨id, hidx, hgr⟩ := hBr.idx (P := Tryz.prog) (t := 39) (e := 3) (ag := false) Tryz.underlying39 ty_lay3 (k := j) (by rw [natsV_len]; exact hjp)
     have hav := nat_at' hv
     have hct := cont_take (m := m) hv
     have HB := Lib.hid hBr
     cases hcm : (p.take j).contains m with
     | true =>
      rw [hcm] at h8 hct
      have HCT := Lib.hid hct
      clear hct hcm hv hBr
      repeat' (first | refine goS ?_ | refine go2 (fun hh => ?_) (fun hh => ?_) | fail)
      refine ⟨hjp, _, rfl, ?_, ?_, ?_, ?_, ?_, ?_, ?_, ?_, by omega⟩
      case refine_7 => rw [HCT.out]; simp only [go_sem, *, Nat.reduceLT, Int.reduceEq, Int.reduceBEq, Int.reduceLE, Int.reduceLT, Nat.reduceAdd, Nat.reduceBEq, Nat.reduceEqDiff, reduceIte, Nat.reduceLeDiff, Nat.reduceMul, Nat.reduceSub, reduceCtorEq, Bool.true_or]
      all_goals exact Z2
     | false =>
      rw [hcm] at h8 hct
      have HCT := Lib.hid hct
      clear hct hcm hv hBr
      repeat' (first | refine goS ?_ | refine go2 (fun hh => ?_) (fun hh => ?_) | fail)
      refine ⟨hjp, _, rfl, ?_, ?_, ?_, ?_, ?_, ?_, ?_, ?_, by omega⟩
      case refine_7 => rw [HCT.out]; simp only [go_sem, *, Nat.reduceLT, Int.reduceEq, Int.reduceBEq, Int.reduceLE, Int.reduceLT, Nat.reduceAdd, Nat.reduceBEq, Nat.reduceEqDiff, reduceIte, Nat.reduceLeDiff, Nat.reduceMul, Nat.reduceSub, reduceCtorEq, Bool.false_or]
      all_goals exact Z2
    ·have hd : decide ((j : Int) < (p.length : Int)) = false := by simpa using hjp
     have hjl : j = p.length := by omega
     rw [hjl, List.take_length] at h8
     have HB := Lib.hid hBr
     clear hjl hjp hj
     cases hcm : p.contains m with
     | true =>
      rw [hcm] at h8
      have HK := Lib.hid (kids_no hcm)
      clear hcm hBr
      repeat' (first | refine goS ?_ | refine go2 (fun hh => ?_) (fun hh => ?_) | fail)
      refine ⟨hmn, _, hr, w, es'', rfl, HX3.out, HBW.out, ?_, HRO3.out, ?_, ?_, ?_, ?_, ?_, ?_, by omega⟩
      ·rw [HK.out]; exact HEL3.out
      all_goals exact Z2
     | false =>
      rw [hcm] at h8
      have HK := Lib.hid (kids_yes hcm)
      have hsz : ∀ v ∈ natsV p, v.cells.length = 1 := fun v hv => by
       obtain ⟨k, _, rfl⟩ := List.mem_map.1 hv
       rfl
      have hlen : (natsV p).length ≤ most := by
       rw [natsV_len, HPL.out]
       have := HN.out
       unfold most
       omega
      have hll : p.length + (0 + 1) ≤ most := by
       rw [HPL.out]
       have := HN.out
       unfold most
       omega
      have hBw := HBW.out
      have hlw : es''.length + (0 + 1) ≤ most := by
       have a1 := HEL3.out.1
       have a2 := flat_small HN.out ((lev n i).take k)
       have a3 := kids_small (n := m) p
       have a4 := HES.out
       have a5 := HN.out
       rw [List.length_append] at a1
       rw [List.length_take] at a2
       unfold most
       omega
      have HLL := Lib.hid hlw
      clear hcm
      repeat' (first | (apply WO1.appendC (t := 39) (u := 39) (e := 3) (e' := 3) (sz := 1) (tl := []) (y := r) (l := natsV p); (focus (first | exact Z2 | exact Z1)); exact rfl; exact Z2; exact Z2; exact Z2; (focus (exact ty_row39)); (focus (exact hBr)); (focus (exact hsz)); (focus (exact hlen)); (intro v1 hp1 hB1 ho1 hX1; simp only [pM, pN])) | (apply WO1.appendN (t := 39) (u := 39) (e := 3) (e' := 3) (sz := 1) (tl := []) (b := hr.next) (h0 := hr); (focus (exact hB1)); (focus (exact hX1)); exact Z1; exact rfl; exact Z2; exact Z2; exact Z2; (focus (exact ty_row39)); exact Z1; (focus (intro v hv; simp at hv; subst hv; rfl)); (focus (simp only [natsV_len, List.length_cons, List.length_nil]; exact hll)); (focus (simp)); (intro v2 hp2 hB2 ho2 hX2; have hc2 := hB2.blt.cells; have ht2 := hB2.blt.tup; have hl2 := hB2.blt.len; simp only [AV.cells] at hc2; simp only [isTuple] at ht2; simp only [pM, pN])) | (apply WO1.appendW (t := 194) (u := 194) (e := 39) (e' := 39) (sz := 1) (tl := []) (x := w) (l := es''); (focus (exact (hBw.stay hX2))); exact Z1; exact rfl; exact Z2; exact Z2; exact Z2; (focus (exact ty_row194)); exact Z1; (focus (intro v hv; simp at hv; subst hv; exact congrArg List.length hB2.blt.cells)); (focus (simp only [List.length_cons, List.length_nil]; exact hlw)); (focus (simp)); (intro v3 hp3 hB3 ho3 hK3 hE3; simp only [pM, pN])) | refine go1 ?_ | refine go2 (fun hh => ?_) (fun hh => ?_) | fail)
      have hK : Keeps hp2 hp3 w := hK3
      have hE : v3 = .row hp2.next 0 (es'' ++ [v2]).length := hE3
      have hX2' : HExt hr hp2 := hX2
      have bw : Blt hp2 w 1 es'' := HBW.out.blt.ext hX2'
      have hB2' : Blt hp2 v2 1 (natsV (p ++ [m])) := by simpa [natsV] using hB2.blt
      have HKK := Lib.hid hK
      have HEE := Lib.hid hE
      have HXX := Lib.hid hX2'
      have HBB := Lib.hid bw
      have HB22 := Lib.hid hB2'
      clear hK hE hX2' bw hB2' hK3 hE3
      refine ⟨hmn, _, hp3, v3, es'' ++ [v2], rfl, ?_, ?_, ?_, ?_, ?_, ?_, ?_, ?_, ?_, ?_, by omega⟩
      ·have a1 := HX3.out.1
       have a2 := HXX.out.1
       have a3 := HKK.out.1
       refine ⟨by omega, fun id hid => ?_⟩
       rw [HKK.out.2 id (by omega) fun o n e => ?_, HXX.out.2 id (by omega), HX3.out.2 id hid]
       rcases HBW.out with ⟨q, _⟩ | ⟨j, q, _, q2, _⟩
       ·rw [q] at e; cases e
       ·rw [q] at e; cases e; omega
      ·have a1 := HX3.out.1
       have a2 := HXX.out.1
       rcases hB3 with ⟨_, e⟩ | ⟨j, q1, q2, q3, q4⟩
       ·exact absurd e (by simp)
       ·refine .inr ⟨j, q1, q2, ?_, q3, q4⟩
        have := HEE.out
        rw [q1] at this
        cases this
        omega
      ·rw [HK.out, ← List.append_assoc]
       exact ((HEL3.out.ext HXX.out).kept HBB.out HRO3.out HKK.out).add (HB22.out.kept HBB.out HRO3.out HKK.out)
      ·intro r' hr'
       rcases List.mem_append.1 hr' with q | q
       ·exact HRO3.out r' q
       ·obtain rfl : r' = v2 := by simpa using q
        rcases hB2.blt with ⟨_, e⟩ | ⟨j, q1, _⟩
        ·exact absurd e (by simp)
        ·exact ⟨j, _, q1⟩
      all_goals first | exact Z2 | (have hEE := HEE.out; simp only [go_sem, *, Nat.reduceLT, Int.reduceEq, Int.reduceBEq, Int.reduceLE, Int.reduceLT, Nat.reduceAdd, Nat.reduceBEq, Nat.reduceEqDiff, reduceIte, Nat.reduceLeDiff, Nat.reduceMul, Nat.reduceSub, reduceCtorEq]; done)
   ·have hd : decide ((m : Int) < (n : Int)) = false := by simpa using hmn
    have hmn2 : m = n := by omega
    have HM := Lib.hid hmn2
    clear hmn2 hmn hm
    repeat' (first | refine goS ?_ | refine go2 (fun hh => ?_) (fun hh => ?_) | fail)
    refine ⟨hkl, _, hr, w, es'', rfl, HX3.out, HBW.out, ?_, HRO3.out, ?_, ?_, ?_, ?_, ?_, by omega⟩
    ·have := HEL3.out
     rw [HM.out] at this
     rw [take_flat _ HP.out]
     exact this
    all_goals exact Z2
  ·have hd : decide ((k : Int) < (es.length : Int)) = false := by simpa using hkl
   have hk2 : k = es.length := by omega
   have ow := HBW.out.blt.out
   have HK := Lib.hid hk2
   clear hk2 hkl hk
   repeat' (first | refine goS ?_ | refine go2 (fun hh => ?_) (fun hh => ?_) | fail)
   refine ⟨hlt, _, hq, w, es', rfl, HX.out.trans HX2.out, ?_, ?_, fun _ => HRO2.out, ?_, ?_, ?_, by omega⟩
   ·right
    rcases HBW.out with q | ⟨j, q1, q2, q3, q4, q5⟩
    ·exact .inl q
    ·exact .inr ⟨j, q1, q2, Nat.le_trans HX.out.1 q3, q4, q5⟩
   ·have := HEL2.out
    rw [HK.out, HEL.out.1, List.take_length] at this
    rw [lev_succ]
    exact this
   all_goals exact Z2
 ·have hd : decide ((i : Int) < (n : Int)) = false := by simpa using hlt
  have hin : i = n := by omega
  subst hin
  have ou : outV (some u) = some u := by
   rcases HU.out with rfl | q
   ·rfl
   ·exact q.blt.out
  clear hlt hi
  have hfz : ∃ h', freeze hb u = some (.vslice es, h') ∧ HExt h h' ∧ Elems h' es (lev i i) := by
   rcases HU.out with rfl | q
   ·exact ⟨hb, rfl, HX.out, HEL.out⟩
   ·obtain ⟨h', f1, f2, f3⟩ := q.blt.frz1
    have hne : es ≠ [] := by
     intro e
     have := HEL.out.1
     rw [e] at this
     exact lev_ne HN1.out HN.out (List.eq_nil_of_length_eq_zero this.symm)
    have hs : slN es = .vslice es := by
     cases es with
     | nil => exact absurd rfl hne
     | cons x es => rfl
    have hk : Keeps hb h' u := ⟨by omega, fun id _ hid => f3 id hid⟩
    refine ⟨h', ?_, ⟨by have := HX.out.1; omega, fun id hid => ?_⟩, HEL.out.kept q.blt (HRO.out HN1.out) hk⟩
    ·rw [hs] at f1
     rcases q with ⟨_, e⟩ | ⟨j, rfl, _⟩
     ·exact absurd e hne
     ·exact f1
    ·rw [f3 id fun o n e => ?_, HX.out.2 id hid]
     rcases q with ⟨q, _⟩ | ⟨j, q, _, q2, _⟩
     ·rw [q] at e; cases e
     ·rw [q] at e; cases e; omega
  obtain ⟨h', hz, hxx, hee⟩ := hfz
  have HXX := Lib.hid hxx
  have HEE := Lib.hid hee
  clear hxx hee
  repeat' (first | refine goS ?_ | refine go2 (fun hh => ?_) (fun hh => ?_) | fail)
  all_goals (simp only [resV_def (X := dX c) Tryz.func129, Tryz.results129]; first | exact J5 | refine J6 ?_)
  exact ordsR_ret HXX.out HEE.out
end Go.AM
namespace Go.AM
open Go Go.Proofs
variable [Keep]
attribute [local irreducible] W WO WO1 WD WQ WT thenQ blockQ endR isRet retK Cl ClR
def ptEq (p q : Pt) : Bool := p.x == q.x && p.y == q.y
noncomputable def cGA : Itr := fun _ => none
theorem cGA_sound : Sound (dX cGA) := dX_sound (fun f g h => by cases h)
def noTwin (l : List Pt) : Bool := (List.range l.length).all fun i => (List.range i).all fun k => !ptEq (l.getD i ⟨0, 0⟩) (l.getD k ⟨0, 0⟩)
def measB (l : List Pt) (off : Int) : Bool := noTwin l && allB l 2 20 && inB off 0 6
end Go.AM
namespace Go.AM
open Go Go.Proofs
variable [Keep]
attribute [local irreducible] W WO WO1 WD WQ WT thenQ blockQ endR isRet retK Cl ClR
theorem allB_P (l : List Pt) (least far : Int) : allB l least far = pointsB l least 4 far := by
 unfold allB pointsB
 rw [Bool.and_comm]
 congr 1
 rw [List.not_any_eq_all_not]
 congr 1
 funext p
 simp
def sp31 : List AV → Option AV
 | [.agg [a, .int .i64 off]] => (slV ptC a).map fun l => .bool (measB l off)
 | _ => none
def matchR : Option (Nat × List Nat) → AV
 | some (t, o) => .tuple [.int .i64 (t : Int), slN (natsV o), .int .i64 0]
 | none => .tuple [.int .i64 0, .nilslice, .int .i64 5]
def matchOk (hs ps : List Pt) (off : Int) : Bool := measB hs off && decide (hs.length = ps.length) && allB ps 2 80
def matchF (hs ps : List Pt) (off : Int) : AV := if matchOk hs ps off then matchR (matchS off hs ps) else .tuple [.int .i64 0, .nilslice, .int .i64 2]
def sp34 : List AV → Option AV
 | [.agg [ca, .int .i64 off], la] => match slV ptC ca, slV ptC la with
  | some hs, some ps => some (matchF hs ps off)
  | _, _ => none
 | _ => none
end Go.AM
namespace Go.AM
open Go
def lexB : List Nat → List Nat → Bool
 | [], b => !b.isEmpty
 | a :: l, b :: r => if a = b then lexB l r else decide (a < b)
 | _ :: _, [] => false
structure IsOrd (n : Nat) (o : List Nat) : Prop where
 len : o.length = n
 lt : ∀ k ∈ o, k < n
 nd : o.Nodup
theorem find_spec {α : Type} {f : Nat → Option α} {o : α} : ∀ {n : Nat}, (List.range n).findSome? f = some o → ∃ i, i < n ∧ f i = some o ∧ ∀ j, j < i → f j = none := by
 intro n
 induction n with
 | zero => intro h; simp at h
 | succ n ih =>
  intro h
  rw [List.range_succ, List.findSome?_append] at h
  cases h1 : (List.range n).findSome? f with
  | some x =>
   rw [h1] at h
   simp only [Option.some_or, Option.some.injEq] at h
   subst h
   obtain ⟨i, q1, q2, q3⟩ := ih h1
   exact ⟨i, by omega, q2, q3⟩
  | none =>
   rw [h1] at h
   refine ⟨n, by omega, by simpa using h, fun j hj => ?_⟩
   exact List.findSome?_eq_none_iff.1 h1 j (by simpa using hj)
section
variable {n : Nat} {acc : List Nat → Bool}
end
end Go.AM
namespace Go.AM
open Go
variable [Keep]
theorem ok80 {p : Pt} : okPt 80 p = true ↔ (-80 ≤ p.x ∧ p.x ≤ 80) ∧ (-80 ≤ p.y ∧ p.y ≤ 80) := by
 have : w64 (-80) = -80 := rfl
 simp only [okPt, inB, this, Bool.and_eq_true, decide_eq_true_eq]
def lin (t : Nat) (p : Pt) : Pt :=
 match t with
 | 0 => p
 | 1 => ⟨-p.y, p.x⟩
 | 2 => ⟨-p.x, -p.y⟩
 | 3 => ⟨p.y, -p.x⟩
 | 4 => ⟨-p.x, p.y⟩
 | 5 => ⟨-p.y, -p.x⟩
 | 6 => ⟨p.x, -p.y⟩
 | _ => ⟨p.y, p.x⟩
theorem lt8 {t : Nat} (h : t < 8) : t = 0 ∨ t = 1 ∨ t = 2 ∨ t = 3 ∨ t = 4 ∨ t = 5 ∨ t = 6 ∨ t = 7 := by omega
theorem turn_lin {t : Nat} (ht : t < 8) {p : Pt} (hp : okPt 80 p = true) : turnP (t : Int) p = lin t p := by
 obtain ⟨x, y⟩ := p
 rw [ok80] at hp
 simp only at hp
 have e1 : w64 (-x) = -x := wrap_small (by omega) (by omega)
 have e2 : w64 (-y) = -y := wrap_small (by omega) (by omega)
 have e3 : w64 x = x := wrap_small (by omega) (by omega)
 have e4 : w64 y = y := wrap_small (by omega) (by omega)
 have c0 : w64 0 = 0 := rfl
 have c1 : w64 1 = 1 := rfl
 have c2 : w64 2 = 2 := rfl
 have c3 : w64 3 = 3 := rfl
 rcases lt8 ht with rfl | rfl | rfl | rfl | rfl | rfl | rfl | rfl <;> simp [turnP, lin, iter, quarter, flipX, e1, e2, e3, e4, c0, c1, c2, c3]
theorem lin_ok {t : Nat} (ht : t < 8) {p : Pt} (hp : okPt 80 p = true) : okPt 80 (lin t p) = true := by
 rw [ok80] at hp ⊢
 rcases lt8 ht with rfl | rfl | rfl | rfl | rfl | rfl | rfl | rfl <;> simp only [lin] <;> omega
theorem turn_ok {t : Nat} (ht : t < 8) {p : Pt} (hp : okPt 80 p = true) : okPt 80 (turnP (t : Int) p) = true := by
 rw [turn_lin ht hp]
 exact lin_ok ht hp
def after (s t : Nat) : Nat := if s / 4 = t / 4 then (t + 4 - s % 4) % 4 else 4 + (s + t) % 4
def farS (p q : Pt) : Int := w64 (w64 (w64 (p.x - q.x) * w64 (p.x - q.x)) + w64 (w64 (p.y - q.y) * w64 (p.y - q.y)))
def againS (turn : Int) : Nat → List Pt → Option (List Pt)
 | 0, l => some l
 | k + 1, l => if inB turn 0 7 && allB l 0 80 then (if pointsB (l.map (turnP turn)) l.length l.length 80 then againS turn k (l.map (turnP turn)) else none) else none
end Go.AM
namespace Go.AM
open Go Go.Proofs
variable [Keep]
attribute [local irreducible] W WO WO1 WD WQ WT thenQ blockQ endR isRet retK Cl ClR
attribute [local irreducible] farS
def sp33 : List AV → Option AV
 | [.agg [.int .i64 x, .int .i64 y], .agg [.int .i64 a, .int .i64 b]] => some (.int .i64 (farS ⟨x, y⟩ ⟨a, b⟩))
 | _ => none
def againV : Option (List Pt) → AV
 | some l => slN (l.map ptC.enc)
 | none => .nilslice
def sp32 : List AV → Option AV
 | [a, .int .i64 turn, .int .i64 times] => match slV ptC a with
  | some l => if inB times 1 4 = true then some (againV (againS turn times.toNat l)) else none
  | none => none
 | _ => none
attribute [local irreducible] againS
end Go.AM
namespace Go.AM
open Go Go.Proofs
variable [Keep]
attribute [local irreducible] W WO WO1 WD WQ WT thenQ blockQ endR isRet retK Cl ClR
def befB : List Int → List Int → Bool
 | [], r => !r.isEmpty
 | _ :: _, [] => false
 | a :: l, b :: r => if a = b then befB l r else decide (a < b)
theorem bef_step {l r : List Int} {i : Nat} {a b : Int} (ha : l[i]? = some a) (hb : r[i]? = some b) : befB (l.drop i) (r.drop i) = if a = b then befB (l.drop (i + 1)) (r.drop (i + 1)) else decide (a < b) := by
 have h1 : i < l.length := by
  rcases Nat.lt_or_ge i l.length with h' | h'
  ·exact h'
  ·rw [List.getElem?_eq_none h'] at ha; cases ha
 have h2 : i < r.length := by
  rcases Nat.lt_or_ge i r.length with h' | h'
  ·exact h'
  ·rw [List.getElem?_eq_none h'] at hb; cases hb
 rw [List.drop_eq_getElem_cons h1, List.drop_eq_getElem_cons h2]
 rw [List.getElem?_eq_getElem h1] at ha
 rw [List.getElem?_eq_getElem h2] at hb
 rw [Option.some.inj ha, Option.some.inj hb]
 rfl
theorem bef_end {l r : List Int} {i : Nat} (hi : i ≤ l.length) (hj : i ≤ r.length) (he : ¬ (i < l.length ∧ i < r.length)) : befB (l.drop i) (r.drop i) = decide ((l.length : Int) < (r.length : Int)) := by
 by_cases h1 : i < l.length
 ·have h2 : i = r.length := by omega
  rw [h2, List.drop_length, List.drop_eq_getElem_cons (by omega)]
  show false = _
  symm
  simp
  omega
 ·have h2 : i = l.length := by omega
  rw [h2, List.drop_length]
  show (!(r.drop l.length).isEmpty) = _
  rw [Bool.eq_iff_iff]
  simp
def sp37 : List AV → Option AV
 | [a, b] => match slV intC a, slV intC b with
  | some l, some r => some (.bool (befB l r))
  | _, _ => none
 | _ => none
theorem p37 : ∀ args v, sp37 args = some v → v.pur = true := by
 intro args v h
 unfold sp37 at h
 split at h
 ·split at h
  ·cases h; rfl
  ·cases h
 ·cases h
attribute [local irreducible] befB
set_option maxHeartbeats 2000000 in
theorem F37 : IntrFn Tryz.prog 37 (pureFn sp37) := by
 refine pure_fn (X := dX cGA) cGA_sound p37 ?_
 intro args v h
 unfold sp37 at h
 split at h
 ·rename_i a b
  split at h
  ·rename_i l r ha hb
   have h := Option.some.inj h
   subst h
   have ol := sl_out ha
   have orr := sl_out hb
   have ll := sl_len ha
   have lr := sl_len hb
   have ml := sl_max ha
   have HA := Lib.hid ha
   have HB := Lib.hid hb
   generalize hres : befB l r = res
   have HR := Lib.hid hres
   clear hres ha hb
   refine ClR.walk (c := _) rfl Tryz.func37 rfl (by kernel_rfl) rfl isRet_fail ?_
   simp only [entryEnv, Nat.reduceAdd, emptyHp]
   repeat' (first | refine goS ?_ | refine go2 (fun hh => ?_) (fun hh => ?_) | fail)
   refine W.loopN (min l.length r.length) (fun i F => ∃ e, F = Fr.mk 37 false e .nil ⟨0, .nil⟩ [] none ∧ befB (l.drop i) (r.drop i) = res ∧ e.get 0 = some a ∧ e.get 1 = some b ∧ e.get 5 = some (.int .i64 ↑i) ∧ i ≤ min l.length r.length) ?_ ?_
   ·refine ⟨_, rfl, HR.out, ?_, ?_, ?_, ?_⟩ <;> first | exact Z2 | simp [go_sem, *]
   rintro i F ⟨e, rfl, hbf, h0, h1, h5, hi⟩
   have HBF := Lib.hid hbf
   clear hbf
   have hi2 : i ≤ l.length ∧ i ≤ r.length := by omega
   have HI := Lib.hid hi2
   clear hi hi2
   by_cases hl : i < l.length
   ·have hd : decide ((i : Int) < (l.length : Int)) = true := by simpa using hl
    by_cases hr : i < r.length
    ·have hd2 : decide ((i : Int) < (r.length : Int)) = true := by simpa using hr
     have hw := wrap_succ hl ml
     obtain ⟨x, hx⟩ := get_some hl
     obtain ⟨y, hy⟩ := get_some hr
     have hix := int_idx HA.out hx
     have hiy := int_idx HB.out hy
     have hst := bef_step hx hy
     have HST := Lib.hid hst
     have HLT := Lib.hid (show i < min l.length r.length by omega)
     clear hx hy hst hl hr
     by_cases hxy : x = y
     ·have hb1 : (x != y) = false := by simp [hxy]
      have HXY := Lib.hid hxy
      clear hxy
      repeat' (first | (apply W.drawQ (id := 4) (l1 := [0, 1, 2, 3, 4, 5, 6, 7, 8]) (l2 := []); kernel_rfl; kernel_rfl; kernel_rfl; exact Z4) | (apply W.drawQ (id := 5) (l1 := [0, 1, 2, 3, 4, 5, 6, 7, 8, 9]) (l2 := []); kernel_rfl; kernel_rfl; kernel_rfl; exact Z4) | refine go1 ?_ | refine go2 (fun hh => ?_) (fun hh => ?_) | fail)
      refine ⟨HLT.out, _, rfl, ?_, ?_, ?_, ?_, ?_⟩
      ·rw [← HBF.out, HST.out, if_pos HXY.out]
      all_goals first | exact Z2 | (have := HLT.out; omega)
     ·have hb1 : (x != y) = true := by simp [hxy]
      have HXY := Lib.hid hxy
      clear hxy
      repeat' (first | (apply W.drawQ (id := 4) (l1 := [0, 1, 2, 3, 4, 5, 6, 7, 8]) (l2 := []); kernel_rfl; kernel_rfl; kernel_rfl; exact Z4) | (apply W.drawQ (id := 5) (l1 := [0, 1, 2, 3, 4, 5, 6, 7, 8, 9]) (l2 := []); kernel_rfl; kernel_rfl; kernel_rfl; exact Z4) | refine go1 ?_ | refine go2 (fun hh => ?_) (fun hh => ?_) | fail)
      all_goals (simp only [resV_def (X := dX cGA) Tryz.func37, Tryz.results37]; first | exact J5 | refine J6 ?_)
      rw [← HBF.out, HST.out, if_neg HXY.out]
    ·have hd2 : decide ((i : Int) < (r.length : Int)) = false := by simpa using hr
     have HE := Lib.hid (bef_end (l := l) (r := r) HI.out.1 HI.out.2 (fun h => hr h.2))
     clear hr hl
     repeat' (first | refine goS ?_ | refine go2 (fun hh => ?_) (fun hh => ?_) | fail)
     all_goals (simp only [resV_def (X := dX cGA) Tryz.func37, Tryz.results37]; first | exact J5 | refine J6 ?_)
     rw [← HBF.out, HE.out]
   ·have hd : decide ((i : Int) < (l.length : Int)) = false := by simpa using hl
    have HE := Lib.hid (bef_end (l := l) (r := r) HI.out.1 HI.out.2 (fun h => hl h.1))
    clear hl
    repeat' (first | refine goS ?_ | refine go2 (fun hh => ?_) (fun hh => ?_) | fail)
    all_goals (simp only [resV_def (X := dX cGA) Tryz.func37, Tryz.results37]; first | exact J5 | refine J6 ?_)
    rw [← HBF.out, HE.out]
  ·cases h
 ·cases h
def ordAt (l : List Int) (many : Int) (i : Nat) : Bool := ((List.range i).all fun k => !(l.getD i 0 == l.getD k 0)) && inB (l.getD i 0) 0 (w64 (many - 1))
def orderB (l : List Int) (many : Int) : Bool := ((List.range l.length).all (ordAt l many)) && ((l.length : Int) == many)
end Go.AM
namespace Go.AM
open Go Go.Proofs
variable [Keep]
attribute [local irreducible] W WO WO1 WD WQ WT thenQ blockQ endR isRet retK Cl ClR
attribute [local irreducible] farS againS matchS measB
noncomputable def c4 : Itr
 | 31 => some (pureFn sp31)
 | 32 => some (pureFn sp32)
 | 33 => some (pureFn sp33)
 | 34 => some (pureFn sp34)
 | f => c25 cK f
end Go.AM
namespace Go.AM
open Go Go.Proofs
variable [Keep]
attribute [local irreducible] W WO WO1 WD WQ WT thenQ blockQ endR isRet retK Cl ClR
theorem bef_lex : ∀ (p q : List Nat), befB (p.map fun k : Nat => (k : Int)) (q.map fun k : Nat => (k : Int)) = lexB p q := by
 intro p
 induction p with
 | nil => intro q; cases q <;> rfl
 | cons a p ih =>
  intro q
  cases q with
  | nil => rfl
  | cons b q =>
   simp only [List.map_cons, befB, lexB, ih]
   by_cases e : a = b
   ·rw [if_pos e, if_pos (by omega)]
   ·rw [if_neg e, if_neg (by omega)]
    simp
attribute [local irreducible] againS measB orderB
end Go.AM
namespace Go.AM
open Go Go.Proofs
variable [Keep]
attribute [local irreducible] W WO WO1 WD WQ WT thenQ blockQ endR isRet retK Cl ClR
def ext (n : Nat) : Nat → List Nat → List (List Nat)
 | 0, p => [p]
 | d + 1, p => (kidsTo p n).flatMap (ext n d)
theorem lev_ext (n : Nat) : ∀ (d i : Nat), lev n (i + d) = (lev n i).flatMap (ext n d) := by
 intro d
 induction d with
 | zero =>
  intro i
  show lev n i = (lev n i).flatMap fun p => [p]
  simp
 | succ d ih =>
  intro i
  rw [show i + (d + 1) = (i + 1) + d by omega, ih (i + 1), lev_succ, List.flatMap_assoc]
  rfl
theorem lev_ord {n : Nat} {p : List Nat} : ∀ (i : Nat), ∀ p ∈ lev n i, p.Nodup ∧ ∀ k ∈ p, k < n := by
 intro i
 induction i with
 | zero => intro p hp; simp [lev] at hp; subst hp; simp
 | succ i ih =>
  intro p hp
  rw [lev_succ] at hp
  obtain ⟨q, hq, hp⟩ := List.mem_flatMap.1 hp
  unfold kidsTo at hp
  obtain ⟨v, hv, rfl⟩ := List.mem_map.1 hp
  obtain ⟨hv1, hv2⟩ := List.mem_filter.1 hv
  obtain ⟨a, b⟩ := ih q hq
  have hm : v ∉ q := by simpa using hv2
  refine ⟨?_, fun k hk => ?_⟩
  ·rw [List.nodup_append]
   exact ⟨a, by simp, fun x hx y hy e => by simp at hy; subst hy; subst e; exact hm hx⟩
  ·rcases List.mem_append.1 hk with q' | q'
   ·exact b k q'
   ·simp at q' hv1; omega
end Go.AM
namespace Go.AM
open Go
theorem maxV_eq (x y : Int) : maxV x y = max x y := by unfold maxV; rw [Int.max_def]; split <;> split <;> omega
theorem minV_eq (x y : Int) : minV x y = min x y := by unfold minV; rw [Int.min_def]; split <;> split <;> omega
theorem interS_lo (a b : Sp) : (interS a b).lo = max a.lo b.lo := maxV_eq _ _
theorem interS_hi (a b : Sp) : (interS a b).hi = min a.hi b.hi := minV_eq _ _
theorem Sp.ext2 {a b : Sp} (h1 : a.lo = b.lo) (h2 : a.hi = b.hi) : a = b := by cases a; cases b; simp_all
theorem interS_right (a b c : Sp) : interS (interS a b) c = interS (interS a c) b := Sp.ext2 (by simp only [interS_lo]; omega) (by simp only [interS_hi]; omega)
theorem emp_inter {a b : Sp} (h : empS a = true) : empS (interS a b) = true := by
 simp only [empS, decide_eq_true_eq, interS_lo, interS_hi] at *
 omega
theorem getD_set_same {l : List Sp} {n : Nat} {x : Sp} (h : n < l.length) : (l.set n x).getD n ⟨0, 0⟩ = x := by simp [List.getD, h]
theorem getD_set_ne {l : List Sp} {n j : Nat} {x : Sp} (h : n ≠ j) : (l.set n x).getD j ⟨0, 0⟩ = l.getD j ⟨0, 0⟩ := by simp [List.getD, List.getElem?_set, h]
def allS (b : Int) : List Lim → Sp → Sp
 | [], s => s
 | m :: r, s => if m.b == b then allS b r (interS s m.sp) else allS b r s
theorem allS_emp (b : Int) : ∀ (l : List Lim) (s : Sp), empS s = true → empS (allS b l s) = true := by
 intro l
 induction l with
 | nil => intro s h; exact h
 | cons m r ih =>
  intro s h
  simp only [allS]
  split
  ·exact ih _ (emp_inter h)
  ·exact ih _ h
theorem allS_inter (b : Int) : ∀ (l : List Lim) (s t : Sp), interS (allS b l s) t = allS b l (interS s t) := by
 intro l
 induction l with
 | nil => intro s t; rfl
 | cons m r ih =>
  intro s t
  simp only [allS]
  split
  ·rw [ih, interS_right]
  ·rw [ih]
theorem limS_all (b : Int) : ∀ (l : List Lim) (s : Sp), empS s = false → (∀ t, limS b l s = some t → t = allS b l s ∧ empS t = false) ∧ (limS b l s = none → empS (allS b l s) = true) := by
 intro l
 induction l with
 | nil => intro s h; simp [limS, allS, h]
 | cons m r ih =>
  intro s h
  simp only [limS, allS]
  split
  ·cases e : empS (interS s m.sp) with
   | true =>
    refine ⟨fun t h' => by simp at h', fun _ => allS_emp _ _ _ e⟩
   | false =>
    simp only [Bool.false_eq_true, if_false]
    exact ih _ e
  ·exact ih _ h
def onS (ax : Ax) : Nat → Sp
 | 0 => allS 0 ax.limits ax.chuck
 | k + 1 => allS ((k + 1 : Nat) : Int) ax.limits (nxtS ax (onS ax k))
theorem range_snoc (f : Nat → Sp) (k : Nat) : (List.range (k + 1)).map f = (List.range k).map f ++ [f k] := by simp [List.range_succ]
theorem fwd_on (ax : Ax) (hc : empS ax.chuck = false) (hn : ∀ k, k < 12 → empS (onS ax k) = false → empS (nxtS ax (onS ax k)) = false) : ∀ k, k ≤ 13 →
  (∀ out, fwdS ax k = some out → out = (List.range k).map (onS ax) ∧ ∀ j, j < k → empS (onS ax j) = false) ∧ (fwdS ax k = none → ∃ j, j < k ∧ empS (onS ax j) = true) := by
 intro k
 induction k with
 | zero => intro _; simp [fwdS]
 | succ k ih =>
  intro hk
  obtain ⟨h1, h2⟩ := ih (by omega)
  simp only [fwdS]
  cases ho : fwdS ax k with
  | none =>
   refine ⟨fun out h => by simp at h, fun _ => ?_⟩
   obtain ⟨j, hj, he⟩ := h2 ho
   exact ⟨j, by omega, he⟩
  | some out =>
   obtain ⟨e1, e2⟩ := h1 out ho
   have hst : empS (startS ax out k) = false ∧ allS k ax.limits (startS ax out k) = onS ax k := by
    cases k with
    | zero => exact ⟨hc, rfl⟩
    | succ k =>
     have : startS ax out (k + 1) = nxtS ax (onS ax k) := by
      unfold startS
      rw [if_neg (by omega), e1]
      simp [List.getD]
     rw [this]
     exact ⟨hn k (by omega) (e2 k (by omega)), rfl⟩
   obtain ⟨l1, l2⟩ := limS_all k ax.limits (startS ax out k) hst.1
   simp only
   cases hl : limS k ax.limits (startS ax out k) with
   | none =>
    refine ⟨fun out h => by simp at h, fun _ => ⟨k, by omega, ?_⟩⟩
    rw [← hst.2]
    exact l2 hl
   | some s =>
    obtain ⟨g1, g2⟩ := l1 s hl
    refine ⟨fun out' h => ?_, fun h => by simp at h⟩
    simp only [Option.some.injEq] at h
    subst h
    rw [hst.2] at g1
    subst g1
    refine ⟨by rw [range_snoc, ← e1], fun j hj => ?_⟩
    rcases Nat.lt_or_ge j k with h | h
    ·exact e2 j h
    ·have : j = k := by omega
     subst this
     exact g2
def backS (ax : Ax) : Nat → List Sp → List Sp
 | 0, out => out
 | n + 1, out => backS ax n (out.set n (interS (out.getD n ⟨0, 0⟩) (prvS ax (out.getD (n + 1) ⟨0, 0⟩))))
theorem back_len (ax : Ax) : ∀ n (out : List Sp), (backS ax n out).length = out.length := by
 intro n
 induction n with
 | zero => intro out; rfl
 | succ n ih => intro out; simp [backS, ih]
theorem back_keep (ax : Ax) : ∀ n (out : List Sp) (j : Nat), n ≤ j → (backS ax n out).getD j ⟨0, 0⟩ = out.getD j ⟨0, 0⟩ := by
 intro n
 induction n with
 | zero => intro out j _; rfl
 | succ n ih =>
  intro out j h
  simp only [backS]
  rw [ih _ j (by omega), getD_set_ne (by omega)]
theorem back_emp (ax : Ax) : ∀ n (out : List Sp) (j : Nat), n ≤ out.length → empS (out.getD j ⟨0, 0⟩) = true → empS ((backS ax n out).getD j ⟨0, 0⟩) = true := by
 intro n
 induction n with
 | zero => intro out j _ h; exact h
 | succ n ih =>
  intro out j hl h
  simp only [backS]
  refine ih _ j (by simp; omega) ?_
  by_cases hj : n = j
  ·subst hj
   have : (out.set n (interS (out.getD n ⟨0, 0⟩) (prvS ax (out.getD (n + 1) ⟨0, 0⟩)))).getD n ⟨0, 0⟩ = interS (out.getD n ⟨0, 0⟩) (prvS ax (out.getD (n + 1) ⟨0, 0⟩)) := getD_set_same (by omega)
   rw [this]
   exact emp_inter h
  ·have : (out.set n (interS (out.getD n ⟨0, 0⟩) (prvS ax (out.getD (n + 1) ⟨0, 0⟩)))).getD j ⟨0, 0⟩ = out.getD j ⟨0, 0⟩ := getD_set_ne hj
   rw [this]
   exact h
theorem bwd_back (ax : Ax) : ∀ n (out : List Sp), n < out.length → (∀ t, bwdS ax n out = some t → t = backS ax n out ∧ ∀ j, j < n → empS (t.getD j ⟨0, 0⟩) = false) ∧ (bwdS ax n out = none → ∃ j, j < n ∧ empS ((backS ax n out).getD j ⟨0, 0⟩) = true) := by
 intro n
 induction n with
 | zero => intro out _; simp [bwdS, backS]
 | succ n ih =>
  intro out hl
  simp only [bwdS, backS]
  have hset : (out.set n (interS (out.getD n ⟨0, 0⟩) (prvS ax (out.getD (n + 1) ⟨0, 0⟩)))).getD n ⟨0, 0⟩ = interS (out.getD n ⟨0, 0⟩) (prvS ax (out.getD (n + 1) ⟨0, 0⟩)) := getD_set_same (by omega)
  cases e : empS (interS (out.getD n ⟨0, 0⟩) (prvS ax (out.getD (n + 1) ⟨0, 0⟩))) with
  | true =>
   refine ⟨fun t h => by simp at h, fun _ => ⟨n, by omega, ?_⟩⟩
   rw [back_keep _ _ _ _ (Nat.le_refl _), hset]
   exact e
  | false =>
   simp only [Bool.false_eq_true, if_false]
   obtain ⟨h1, h2⟩ := ih (out.set n (interS (out.getD n ⟨0, 0⟩) (prvS ax (out.getD (n + 1) ⟨0, 0⟩)))) (by simp; omega)
   refine ⟨fun t h => ?_, fun h => ?_⟩
   ·obtain ⟨g1, g2⟩ := h1 t h
    refine ⟨g1, fun j hj => ?_⟩
    rcases Nat.lt_or_ge j n with h' | h'
    ·exact g2 j h'
    ·have : j = n := by omega
     subst this
     rw [g1, back_keep _ _ _ _ (Nat.le_refl _), hset]
     exact e
   ·obtain ⟨j, hj, he⟩ := h2 h
    exact ⟨j, by omega, he⟩
def refS (ax : Ax) : Option (List Sp) := if (backS ax 12 ((List.range 13).map (onS ax))).any empS then none else some (backS ax 12 ((List.range 13).map (onS ax)))
theorem any_getD {l : List Sp} {j : Nat} (hj : j < l.length) (h : empS (l.getD j ⟨0, 0⟩) = true) : l.any empS = true :=
 List.any_eq_true.2 ⟨l[j], List.getElem_mem hj, by simpa [List.getD, hj] using h⟩
theorem bounds_ref [Keep] (ax : Ax) (hc : empS ax.chuck = false) (hn : ∀ k, k < 12 → empS (onS ax k) = false → empS (nxtS ax (onS ax k)) = false) : boundsS ax = refS ax := by
 obtain ⟨h1, h2⟩ := fwd_on ax hc hn 13 (Nat.le_refl _)
 have hlen : (backS ax 12 ((List.range 13).map (onS ax))).length = 13 := by rw [back_len]; simp
 rw [boundsS_def]
 unfold refS
 cases hf : fwdS ax 13 with
 | none =>
  obtain ⟨j, hj, he⟩ := h2 hf
  have : ((List.range 13).map (onS ax)).getD j ⟨0, 0⟩ = onS ax j := by simp [List.getD, hj]
  have := back_emp ax 12 ((List.range 13).map (onS ax)) j (by simp) (by rw [this]; exact he)
  rw [any_getD (by omega) this]
  rfl
 | some out =>
  obtain ⟨rfl, g2⟩ := h1 out hf
  simp only
  obtain ⟨b1, b2⟩ := bwd_back ax 12 ((List.range 13).map (onS ax)) (by simp)
  cases hb : bwdS ax 12 ((List.range 13).map (onS ax)) with
  | none =>
   obtain ⟨j, hj, he⟩ := b2 hb
   rw [any_getD (by omega) he]
   rfl
  | some t =>
   obtain ⟨e1, e2⟩ := b1 t hb
   have : (backS ax 12 ((List.range 13).map (onS ax))).any empS = false := by
    rw [List.any_eq_false]
    intro x hx
    obtain ⟨j, hj⟩ := List.mem_iff_getElem?.1 hx
    have hjl : j < 13 := by
     rcases Nat.lt_or_ge j 13 with h | h
     ·exact h
     ·rw [List.getElem?_eq_none (by omega)] at hj; cases hj
    have hg : (backS ax 12 ((List.range 13).map (onS ax))).getD j ⟨0, 0⟩ = x := by simp [List.getD, hj]
    rcases Nat.lt_or_ge j 12 with h | h
    ·have := e2 j h
     rw [e1, hg] at this
     simp [this]
    ·have : j = 12 := by omega
     subst this
     rw [back_keep _ _ _ _ (Nat.le_refl _)] at hg
     have h12 : ((List.range 13).map (onS ax)).getD 12 ⟨0, 0⟩ = onS ax 12 := by simp [List.getD]
     rw [h12] at hg
     rw [← hg, g2 12 (by omega)]
     simp
   rw [this, e1]
   rfl
end Go.AM
namespace Go.AM
open Go Go.Proofs
variable [Keep]
attribute [local irreducible] W WO WO1 WD WQ WT thenQ blockQ endR isRet retK Cl ClR
def onR (ax : Ax) : Nat → List Sp → List Sp
 | 0, out => out.set 0 (interS (out.getD 0 ⟨0, 0⟩) ax.chuck)
 | n + 1, out => (onR ax n out).set (n + 1) (interS ((onR ax n out).getD (n + 1) ⟨0, 0⟩) (nxtS ax ((onR ax n out).getD n ⟨0, 0⟩)))
theorem onR_len (ax : Ax) (l : List Sp) : ∀ n, (onR ax n l).length = l.length := by
 intro n
 induction n with
 | zero => simp [onR]
 | succ n ih => simp [onR, ih]
def lookS (t : List Sp) : AV := if t.any empS then .tuple [.nilslice, .bool false] else .tuple [slN (t.map spC.enc), .bool true]
def axisV (ax : Ax) (l : List Sp) : AV := lookS (backS ax 12 (onR ax 12 l))
def isAxi (ax : Ax) (l : List Sp) (h : Heap) (r : COut) : Prop := ∃ h', HExt h h' ∧ r = .ret (axisV ax l) h' none
theorem isAxi_fail {ax : Ax} {l : List Sp} {h : Heap} : ¬ isAxi ax l h .fail := by rintro ⟨_, _, e⟩; cases e
theorem isAxi_no {ax : Ax} {l : List Sp} {h hp : Heap} (e : axisV ax l = .tuple [.nilslice, .bool false]) (hx : h.next ≤ hp.next ∧ ∀ id, id < h.next → hp.get id = h.get id) : isAxi ax l h (.ret (.tuple [.nilslice, .bool false]) hp none) := ⟨hp, hx, by rw [e]⟩
theorem isAxi_yes {ax : Ax} {l : List Sp} {h hp : Heap} {t : List Sp} (e : axisV ax l = .tuple [.vslice (t.map spC.enc), .bool true]) (hx : h.next ≤ hp.next ∧ ∀ id, id < h.next → hp.get id = h.get id) : isAxi ax l h (.ret (.tuple [.vslice (t.map spC.enc), .bool true]) hp none) := ⟨hp, hx, by rw [e]⟩
theorem row_idx {H : Heap} {id k : Nat} {cur : List Sp} (hk : k < 13) (hg : H.get id = some (.rw 2 (cur.map spC.enc))) : indexAddrV Tryz.prog H 146 (.row id 0 13) (.int .i64 ↑k) = some (.eptr id 2 k 0) := by
 have h1 : idxV (.int .i64 ↑k) 13 = some k := by
  simp only [idxV]
  rw [if_pos (by omega)]
  simp
 simp only [indexAddrV, Tryz.underlying146, ty_lay48, h1, hg, if_true, Nat.zero_add]
theorem row_idx0 {H : Heap} {id : Nat} {cur : List Sp} (hg : H.get id = some (.rw 2 (cur.map spC.enc))) : indexAddrV Tryz.prog H 146 (.row id 0 13) (.int .i64 0) = some (.eptr id 2 0 0) := row_idx (k := 0) (by omega) hg
theorem row_at {k : Nat} {cur : List Sp} {p : Sp} (hp : cur[k]? = some p) : (cur.map spC.enc)[k]? = some (.agg [.int .i64 p.lo, .int .i64 p.hi]) := by simp [hp, spC]
theorem getD_of {k : Nat} {cur : List Sp} {p : Sp} (hp : cur[k]? = some p) : cur.getD k ⟨0, 0⟩ = p := by simp [List.getD, hp]
attribute [local irreducible] isAxi
set_option maxHeartbeats 2000000 in
theorem C159 (c : Itr) (hc : c 159 = none) (hc2 : c 158 = some (pureFn sp158)) (ax : Ax) (l : List Sp) (ow : AV) (h : Heap) (hel : h.elems ow = some (l.map spC.enc)) (hout : outV (some ow) = some ow) (h13 : l.length = 13) :
  ClR (dX c) 159 [.agg [.int .i64 ax.chuck.lo, .int .i64 ax.chuck.hi], .agg [.int .i64 ax.wear.lo, .int .i64 ax.wear.hi], ow] h (isAxi ax l h) := by
 have hne : l.map spC.enc ≠ [] := by
  intro e
  have : l = [] := by simpa using e
  rw [this] at h13
  simp at h13
 have hsz : ∀ v ∈ l.map spC.enc, v.cells.length = 2 := by
  intro v hv
  obtain ⟨p, _, rfl⟩ := List.mem_map.1 hv
  rfl
 have hmost : ([] : List AV).length + (l.map spC.enc).length ≤ most := by simp only [List.length_nil, List.length_map, h13]; decide
 have H13 := Lib.hid h13
 clear h13
 refine ClR.walk (c := _) hc Tryz.func159 rfl (by kernel_rfl) rfl isAxi_fail ?_
 simp only [entryEnv, Nat.reduceAdd]
 repeat' (first | (apply WO1.appendN (t := 146) (u := 146) (e := 48) (e' := 48) (sz := 2) (tl := []) (b := h.next) (h0 := h) (l := []) (hb := BltN.nil) (hx := ⟨Nat.le_refl _, fun _ _ => rfl⟩); exact Z1; exact rfl; exact Z2; exact Z2; exact Z2; (focus (exact ty_row146)); exact Z1; (focus (exact hsz)); (focus (exact hmost)); (focus (exact hne)); (intro v' h' hB' ho' hX'; simp only [pM, pN])) | refine go1 ?_ | refine go2 (fun hh => ?_) (fun hh => ?_) | fail)
 rw [List.nil_append] at hB'
 obtain ⟨id, hu, hgr, hbid, hidn⟩ := hB'.row hne
 have hu13 : v' = .row id 0 13 := by rw [hu, List.length_map, H13.out]
 subst hu13
 obtain ⟨p0, hp0⟩ := get_some (show 0 < l.length by rw [H13.out]; omega)
 have hix := row_idx0 hgr
 have hrw := row_at hp0
 have hbig : hidn = hidn := rfl
 have HP0 := Lib.hid hp0
 clear hB' hu hne hsz hmost hel hp0 hbig
 repeat' (first | (apply W.drawQ (id := 2) (l1 := [0, 1, 2, 3, 4, 5, 6]) (l2 := [7]); kernel_rfl; kernel_rfl; kernel_rfl; exact Z4) | (apply W.drawQ (id := 6) (l1 := [0, 1, 2, 3, 4, 5, 6, 7, 8, 9, 10, 11, 12, 13, 14, 15, 16, 17, 18, 19, 20, 21, 22, 23, 24, 25, 26]) (l2 := [27]); kernel_rfl; kernel_rfl; kernel_rfl; exact Z4) | (apply W.drawQ (id := 10) (l1 := [0, 1, 2, 3, 4, 5, 6, 7, 8, 9, 10, 11, 12, 13, 14, 15, 16, 17, 18, 19, 20, 21, 22, 23, 24, 25, 26]) (l2 := [27]); kernel_rfl; kernel_rfl; kernel_rfl; exact Z4) | (apply W.drawQ (id := 14) (l1 := [0, 1, 2, 3, 4, 5, 6, 7, 8, 9, 10]) (l2 := []); kernel_rfl; kernel_rfl; kernel_rfl; exact Z4) | refine go1 ?_ | (apply U6; exact Z1; exact Z1; (focus (simp only [List.nil_append, List.append_nil]; first | exact K158 hc2 _ _ _ _ _)); simp only [pM, pN, rR, rP]) | refine go2 (fun hh => ?_) (fun hh => ?_) | fail)
 refine W.loopN 12 (fun k F => ∃ e lm hp, F = Fr.mk 159 false e lm hp [] none ∧ hp.get id = some (.rw 2 ((onR ax k l).map spC.enc)) ∧ (id < hp.next ∧ h.next ≤ hp.next ∧ ∀ id, id < h.next → hp.get id = h.get id) ∧
  lm.get 3 = some (0, [.int .i64 ax.chuck.lo, .int .i64 ax.chuck.hi]) ∧ lm.get 4 = some (0, [.int .i64 ax.wear.lo, .int .i64 ax.wear.hi]) ∧ e.get 3 = some (.lptr 3 0 0) ∧ e.get 4 = some (.lptr 4 0 0) ∧ e.get 8 = some (.row id 0 13) ∧ e.get 9 = some (.int .i64 ↑(k + 1)) ∧ k ≤ 12) ?_ ?_
 ·refine ⟨_, _, _, rfl, ?_, ?_, ?_, ?_, ?_, ?_, ?_, ?_, ?_⟩
  ·have hp0 := HP0.out
   simp only [onR, getD_of hp0]
   simp [Heap.get, Heap.put, List.map_set, spC, asElem, isAggV, interS]
  ·refine ⟨hidn, hX'.1, fun i hi => ?_⟩
   have hne : id ≠ i := by omega
   rw [← hX'.2 i hi]
   simp [Heap.get, Heap.put, hne]
  all_goals first | exact Z2 | simp [go_sem, *]
 clear hix hrw HP0 hgr hX' hidn ho' hout p0
 rintro k F ⟨e, lm, hp, rfl, hgid, hX, hl3, hl4, h3, h4, h8, h9, hk⟩
 have hlc : (onR ax k l).length = 13 := by rw [onR_len, H13.out]
 by_cases hlt : k < 12
 ·have hd : decide ((↑(k + 1) : Int) ≤ 12) = true := by simp; omega
  obtain ⟨pb, hpb⟩ := get_some (show k + 1 < (onR ax k l).length by omega)
  obtain ⟨pn, hpn⟩ := get_some (show k < (onR ax k l).length by omega)
  have hw1 : IntKind.i64.wrap (↑(k + 1) - 1) = ↑k := by rw [wrap_small (by omega) (by omega)]; omega
  have hw2 : IntKind.i64.wrap (↑(k + 1) + 1) = ↑(k + 1 + 1) := by rw [wrap_small (by omega) (by omega)]; omega
  have hrb := row_at hpb
  have hrn := row_at hpn
  have hixb := row_idx (show k + 1 < 13 by omega) hgid
  have hixn := row_idx (show k < 13 by omega) hgid
  have hon : onR ax (k + 1) l = (onR ax k l).set (k + 1) (interS pb (nxtS ax pn)) := by
   simp only [onR, getD_of hpb, getD_of hpn]
  have HON := Lib.hid hon
  clear hon hpb hpn hlc
  generalize onR ax k l = cur at hgid hrb hrn HON
  generalize hn : k + 1 = n at *
  repeat' (first | (apply W.drawQ (id := 2) (l1 := [0, 1, 2, 3, 4, 5, 6]) (l2 := [7]); kernel_rfl; kernel_rfl; kernel_rfl; exact Z4) | (apply W.drawQ (id := 6) (l1 := [0, 1, 2, 3, 4, 5, 6, 7, 8, 9, 10, 11, 12, 13, 14, 15, 16, 17, 18, 19, 20, 21, 22, 23, 24, 25, 26]) (l2 := [27]); kernel_rfl; kernel_rfl; kernel_rfl; exact Z4) | (apply W.drawQ (id := 10) (l1 := [0, 1, 2, 3, 4, 5, 6, 7, 8, 9, 10, 11, 12, 13, 14, 15, 16, 17, 18, 19, 20, 21, 22, 23, 24, 25, 26]) (l2 := [27]); kernel_rfl; kernel_rfl; kernel_rfl; exact Z4) | (apply W.drawQ (id := 14) (l1 := [0, 1, 2, 3, 4, 5, 6, 7, 8, 9, 10]) (l2 := []); kernel_rfl; kernel_rfl; kernel_rfl; exact Z4) | refine go1 ?_ | (apply U6; exact Z1; exact Z1; (focus (simp only [List.nil_append, List.append_nil]; first | exact K158 hc2 _ _ _ _ _)); simp only [pM, pN, rR, rP]) | refine go2 (fun hh => ?_) (fun hh => ?_) | fail)
  subst hn
  refine ⟨hlt, _, _, _, rfl, ?_, ?_, ?_, ?_, ?_, ?_, ?_, ?_, by omega⟩
  ·rw [HON.out]
   simp [Heap.get, Heap.put, List.map_set, spC, asElem, isAggV, interS, nxtS, w64]
  ·refine ⟨hX.1, hX.2.1, fun i hi => ?_⟩
   have hne : id ≠ i := by omega
   rw [← hX.2.2 i hi]
   simp [Heap.get, Heap.put, hne]
  all_goals exact Z2
 ·have hd : decide ((↑(k + 1) : Int) ≤ 12) = false := by simp; omega
  have hk12 : k = 12 := by omega
  subst hk12
  have HM := Lib.hid (show backS ax 12 (onR ax 12 l) = backS ax 12 (onR ax 12 l) from rfl)
  generalize hmid : onR ax 12 l = mid at *
  have hmv : axisV ax l = lookS (backS ax 12 mid) := by unfold axisV; rw [hmid]
  have HV := Lib.hid hmv
  have HGR := Lib.hid hgid
  have HLC := Lib.hid hlc
  clear hmid hmv hgid hlc hlt HM
  repeat' (first | refine goS ?_ | refine go2 (fun hh => ?_) (fun hh => ?_) | fail)
  refine W.loopN 12 (fun j F => ∃ e lm hp cur, F = Fr.mk 159 false e lm hp [] none ∧ backS ax (12 - j) cur = backS ax 12 mid ∧ cur.length = 13 ∧ hp.get id = some (.rw 2 (cur.map spC.enc)) ∧ (id < hp.next ∧ h.next ≤ hp.next ∧ ∀ id, id < h.next → hp.get id = h.get id) ∧
   lm.get 4 = some (0, [.int .i64 ax.wear.lo, .int .i64 ax.wear.hi]) ∧ e.get 4 = some (.lptr 4 0 0) ∧ e.get 8 = some (.row id 0 13) ∧ e.get 10 = some (.int .i64 ↑(12 - j)) ∧ j ≤ 12) ?_ ?_
  ·refine ⟨_, _, _, mid, rfl, rfl, HLC.out, HGR.out, hX, ?_, ?_, ?_, ?_, ?_⟩ <;> first | exact Z2 | simp [go_sem, *]
  clear hd h9 hl3 h3 hk
  rintro j F ⟨e, lm, hp, cur, rfl, hbw, hcl13, hgid, hX, hl4, h4, h8, h10, hj⟩
  have HBW := Lib.hid hbw
  have HC := Lib.hid hcl13
  clear hbw
  by_cases hjt : j < 12
  ·have hdj : decide ((↑(12 - j) : Int) > 0) = true := by simp; omega
   obtain ⟨pb, hpb⟩ := get_some (show 11 - j < cur.length by omega)
   obtain ⟨pn, hpn⟩ := get_some (show 12 - j < cur.length by omega)
   have hw1 : IntKind.i64.wrap (↑(12 - j) - 1) = ↑(11 - j) := by rw [wrap_small (by omega) (by omega)]; omega
   have hrb := row_at hpb
   have hrn := row_at hpn
   have hixb := row_idx (show 11 - j < 13 by omega) hgid
   have hixn := row_idx (show 12 - j < 13 by omega) hgid
   have hstep : backS ax (12 - j) cur = backS ax (11 - j) (cur.set (11 - j) (interS pb (prvS ax pn))) := by
    rw [show 12 - j = (11 - j) + 1 from by omega]
    show backS ax (11 - j) _ = _
    rw [getD_of hpb, show 11 - j + 1 = 12 - j from by omega, getD_of hpn]
   have HST := Lib.hid hstep
   clear hstep hpb hpn hcl13
   generalize hn : 12 - j = n at *
   generalize hn1 : 11 - j = n1 at *
   repeat' (first | (apply W.drawQ (id := 2) (l1 := [0, 1, 2, 3, 4, 5, 6]) (l2 := [7]); kernel_rfl; kernel_rfl; kernel_rfl; exact Z4) | (apply W.drawQ (id := 6) (l1 := [0, 1, 2, 3, 4, 5, 6, 7, 8, 9, 10, 11, 12, 13, 14, 15, 16, 17, 18, 19, 20, 21, 22, 23, 24, 25, 26]) (l2 := [27]); kernel_rfl; kernel_rfl; kernel_rfl; exact Z4) | (apply W.drawQ (id := 10) (l1 := [0, 1, 2, 3, 4, 5, 6, 7, 8, 9, 10, 11, 12, 13, 14, 15, 16, 17, 18, 19, 20, 21, 22, 23, 24, 25, 26]) (l2 := [27]); kernel_rfl; kernel_rfl; kernel_rfl; exact Z4) | (apply W.drawQ (id := 14) (l1 := [0, 1, 2, 3, 4, 5, 6, 7, 8, 9, 10]) (l2 := []); kernel_rfl; kernel_rfl; kernel_rfl; exact Z4) | refine go1 ?_ | (apply U6; exact Z1; exact Z1; (focus (simp only [List.nil_append, List.append_nil]; first | exact K158 hc2 _ _ _ _ _)); simp only [pM, pN, rR, rP]) | refine go2 (fun hh => ?_) (fun hh => ?_) | fail)
   refine ⟨hjt, _, _, _, cur.set n1 (interS pb (prvS ax pn)), rfl, ?_, ?_, ?_, ?_, ?_, ?_, ?_, ?_, by omega⟩
   ·rw [show 12 - (j + 1) = n1 from by omega, ← HBW.out, HST.out]
   ·rw [List.length_set]; exact HC.out
   ·simp [Heap.get, Heap.put, List.map_set, spC, asElem, isAggV, interS, prvS, w64]
   ·refine ⟨hX.1, hX.2.1, fun i hi => ?_⟩
    have hne : id ≠ i := by omega
    rw [← hX.2.2 i hi]
    simp [Heap.get, Heap.put, hne]
   ·simp only [go_sem, *, Nat.reduceLT, Int.reduceEq, Int.reduceBEq, Int.reduceLE, Int.reduceLT, Nat.reduceAdd, Nat.reduceBEq, Nat.reduceEqDiff, reduceIte, Nat.reduceLeDiff, Nat.reduceMul, Nat.reduceSub, reduceCtorEq]; done
   ·simp only [go_sem, *, Nat.reduceLT, Int.reduceEq, Int.reduceBEq, Int.reduceLE, Int.reduceLT, Nat.reduceAdd, Nat.reduceBEq, Nat.reduceEqDiff, reduceIte, Nat.reduceLeDiff, Nat.reduceMul, Nat.reduceSub, reduceCtorEq]; done
   ·simp only [go_sem, *, Nat.reduceLT, Int.reduceEq, Int.reduceBEq, Int.reduceLE, Int.reduceLT, Nat.reduceAdd, Nat.reduceBEq, Nat.reduceEqDiff, reduceIte, Nat.reduceLeDiff, Nat.reduceMul, Nat.reduceSub, reduceCtorEq]; done
   ·rw [show 12 - (j + 1) = n1 from by omega]
    simp only [go_sem, *, Nat.reduceLT, Int.reduceEq, Int.reduceBEq, Int.reduceLE, Int.reduceLT, Nat.reduceAdd, Nat.reduceBEq, Nat.reduceEqDiff, reduceIte, Nat.reduceLeDiff, Nat.reduceMul, Nat.reduceSub, reduceCtorEq]
  ·have hdj : decide ((↑(12 - j) : Int) > 0) = false := by simp; omega
   have hj12 : j = 12 := by omega
   have hbc : cur = backS ax 12 mid := by rw [← HBW.out, hj12]; rfl
   have hmv : axisV ax l = lookS cur := by rw [HV.out, hbc]
   have HV2 := Lib.hid hmv
   clear hbc hj12 hcl13 hmv
   repeat' (first | refine goS ?_ | refine go2 (fun hh => ?_) (fun hh => ?_) | fail)
   refine W.loopN 13 (fun k F => ∃ e lm, F = Fr.mk 159 false e lm hp [] none ∧ (cur.take k).any empS = false ∧ e.get 8 = some (.row id 0 13) ∧ e.get 11 = some (.int .i64 ↑k) ∧ k ≤ 13) ?_ ?_
   ·refine ⟨_, _, rfl, ?_, ?_, ?_, ?_⟩ <;> first | exact Z2 | simp [go_sem, *]
   clear h10 hl4 h4 h8 hdj
   rintro k F ⟨e, lm, rfl, hany, h8, h11, hk⟩
   have HA := Lib.hid hany
   clear hany
   by_cases hkt : k < 13
   ·have hdk : decide ((k : Int) ≤ 12) = true := by simp; omega
    obtain ⟨pk, hpk⟩ := get_some (show k < cur.length by rw [HC.out]; omega)
    have hrk := row_at hpk
    have hixk := row_idx hkt hgid
    have hwk := wrap_succ hkt (by unfold maxL; omega)
    have hnx := take_next hpk
    have HNX := Lib.hid hnx
    have hno : empS pk = true → axisV ax l = .tuple [.nilslice, .bool false] := fun he => by
     have : cur.any empS = true := List.any_eq_true.2 ⟨pk, List.mem_of_getElem? hpk, he⟩
     rw [HV2.out, lookS, this]
     rfl
    have HNO := Lib.hid hno
    clear hnx hno hpk
    by_cases hem : pk.lo > pk.hi
    ·have hde : decide (pk.lo > pk.hi) = true := by simpa using hem
     have hv := HNO.out (by simpa [empS] using hem)
     have HVV := Lib.hid hv
     clear hv hem
     repeat' (first | (apply W.drawQ (id := 2) (l1 := [0, 1, 2, 3, 4, 5, 6]) (l2 := [7]); kernel_rfl; kernel_rfl; kernel_rfl; exact Z4) | (apply W.drawQ (id := 6) (l1 := [0, 1, 2, 3, 4, 5, 6, 7, 8, 9, 10, 11, 12, 13, 14, 15, 16, 17, 18, 19, 20, 21, 22, 23, 24, 25, 26]) (l2 := [27]); kernel_rfl; kernel_rfl; kernel_rfl; exact Z4) | (apply W.drawQ (id := 10) (l1 := [0, 1, 2, 3, 4, 5, 6, 7, 8, 9, 10, 11, 12, 13, 14, 15, 16, 17, 18, 19, 20, 21, 22, 23, 24, 25, 26]) (l2 := [27]); kernel_rfl; kernel_rfl; kernel_rfl; exact Z4) | (apply W.drawQ (id := 14) (l1 := [0, 1, 2, 3, 4, 5, 6, 7, 8, 9, 10]) (l2 := []); kernel_rfl; kernel_rfl; kernel_rfl; exact Z4) | refine go1 ?_ | refine go2 (fun hh => ?_) (fun hh => ?_) | fail)
     all_goals (simp only [resV_def (X := dX c) Tryz.func159, Tryz.results159]; first | exact J5 | refine J6 ?_)
     exact isAxi_no HVV.out hX.2
    ·have hde : decide (pk.lo > pk.hi) = false := by simpa using hem
     have hee : empS pk = false := by simpa [empS] using hem
     have HE := Lib.hid hee
     clear hem hee
     repeat' (first | (apply W.drawQ (id := 2) (l1 := [0, 1, 2, 3, 4, 5, 6]) (l2 := [7]); kernel_rfl; kernel_rfl; kernel_rfl; exact Z4) | (apply W.drawQ (id := 6) (l1 := [0, 1, 2, 3, 4, 5, 6, 7, 8, 9, 10, 11, 12, 13, 14, 15, 16, 17, 18, 19, 20, 21, 22, 23, 24, 25, 26]) (l2 := [27]); kernel_rfl; kernel_rfl; kernel_rfl; exact Z4) | (apply W.drawQ (id := 10) (l1 := [0, 1, 2, 3, 4, 5, 6, 7, 8, 9, 10, 11, 12, 13, 14, 15, 16, 17, 18, 19, 20, 21, 22, 23, 24, 25, 26]) (l2 := [27]); kernel_rfl; kernel_rfl; kernel_rfl; exact Z4) | (apply W.drawQ (id := 14) (l1 := [0, 1, 2, 3, 4, 5, 6, 7, 8, 9, 10]) (l2 := []); kernel_rfl; kernel_rfl; kernel_rfl; exact Z4) | refine go1 ?_ | refine go2 (fun hh => ?_) (fun hh => ?_) | fail)
     refine ⟨hkt, _, _, rfl, ?_, ?_, ?_, by omega⟩
     ·have h1 := HA.out
      have h2 := HE.out
      rw [HNX.out]
      simp [h1, h2]
     all_goals exact Z2
   ·have hdk : decide ((k : Int) ≤ 12) = false := by simp; omega
    have hk13 : k = 13 := by omega
    have hany := HA.out
    rw [hk13, List.take_of_length_le (by rw [HC.out]; omega)] at hany
    have hsl : slN (cur.map spC.enc) = .vslice (cur.map spC.enc) := by
     have h13 := HC.out
     cases cur with
     | nil => simp at h13
     | cons x r => rfl
    have hv : axisV ax l = .tuple [.vslice (cur.map spC.enc), .bool true] := by
     rw [HV2.out, lookS, hany, hsl]
     rfl
    have HVV := Lib.hid hv
    have hz : frz1 hp (.row id 0 13) = some (.vslice (cur.map spC.enc), hp.del id) := by
     simp only [frz1, hgid, List.length_map, HC.out, Nat.zero_add, Nat.le_refl, if_true, List.drop_zero]
     rw [List.take_of_length_le (by simp [HC.out])]
    have hz2 : frz2 hp (.row id 0 13) = some (.vslice (cur.map spC.enc), hp.del id) := hz
    clear hv hany hsl hk13
    repeat' (first | (apply W.drawQ (id := 2) (l1 := [0, 1, 2, 3, 4, 5, 6]) (l2 := [7]); kernel_rfl; kernel_rfl; kernel_rfl; exact Z4) | (apply W.drawQ (id := 6) (l1 := [0, 1, 2, 3, 4, 5, 6, 7, 8, 9, 10, 11, 12, 13, 14, 15, 16, 17, 18, 19, 20, 21, 22, 23, 24, 25, 26]) (l2 := [27]); kernel_rfl; kernel_rfl; kernel_rfl; exact Z4) | (apply W.drawQ (id := 10) (l1 := [0, 1, 2, 3, 4, 5, 6, 7, 8, 9, 10, 11, 12, 13, 14, 15, 16, 17, 18, 19, 20, 21, 22, 23, 24, 25, 26]) (l2 := [27]); kernel_rfl; kernel_rfl; kernel_rfl; exact Z4) | (apply W.drawQ (id := 14) (l1 := [0, 1, 2, 3, 4, 5, 6, 7, 8, 9, 10]) (l2 := []); kernel_rfl; kernel_rfl; kernel_rfl; exact Z4) | refine go1 ?_ | refine go2 (fun hh => ?_) (fun hh => ?_) | fail)
    all_goals try (simp only [resV_def (X := dX c) Tryz.func159, Tryz.results159]; first | exact J5 | refine J6 ?_)
    refine isAxi_yes HVV.out ⟨hX.2.1, fun i hi => ?_⟩
    have hne : id ≠ i := by omega
    rw [← hX.2.2 i hi]
    simp [Heap.get, Heap.del, hne]
end Go.AM
namespace Go.AM
open Go Go.Proofs
variable [Keep]
attribute [local irreducible] W WO WO1 WD WQ WT thenQ blockQ endR isRet retK Cl ClR
theorem C102 (c : Itr) (hc : c 102 = none) (sa ra : AV) (cx cy wx wy : Sp) (hfs : ∀ hp : Heap, frz1 hp sa = some (sa, hp)) (hfr : ∀ hp : Heap, frz1 hp ra = some (ra, hp)) (n : Nat) (m : Mp Blk) :
  Cl (dX c) 102 [.agg [sa, .int .i64 cx.lo, .int .i64 cx.hi, .int .i64 cy.lo, .int .i64 cy.hi, .int .i64 wx.lo, .int .i64 wx.hi, .int .i64 wy.lo, .int .i64 wy.hi, ra]] ⟨n, m⟩
   (.ret (.agg [sa, .int .i64 cx.lo, .int .i64 cx.hi, .int .i64 cy.lo, .int .i64 cy.hi, .int .i64 wx.lo, .int .i64 wx.hi, .int .i64 wy.lo, .int .i64 wy.hi, ra, .map n]) ⟨n + 1, m.set n (.mp [])⟩ none) := by
 refine ClR.cl ?_
 refine ClR.walk (c := _) hc Tryz.func102 rfl (by kernel_rfl) rfl (fun e => by cases e) ?_
 simp only [entryEnv, Nat.reduceAdd]
 repeat' (first | (apply U5; exact rfl; (focus (intro cl rd; simp only [go_sem, *, Nat.reduceLT, Int.reduceEq, Int.reduceBEq, Int.reduceLE, Int.reduceLT, Nat.reduceAdd, Nat.reduceBEq, Nat.reduceEqDiff, reduceIte, Nat.reduceLeDiff, Nat.reduceMul, Nat.reduceSub, reduceCtorEq, efV, Fr.mapE, Heap.new]; with_reducible rfl)); simp only [pM, pN]) | refine go1 ?_ | refine go2 (fun hh => ?_) (fun hh => ?_) | fail)
 all_goals (simp only [resV_def (X := dX c) Tryz.func102, Tryz.results102]; first | exact J5 | refine J6 ?_)
 have e1 : ∀ (h : Heap) k n, frz1 h (.int k n) = some (.int k n, h) := fun _ _ _ => rfl
 have e2 : ∀ (h : Heap) n, frz1 h (.map n) = some (.map n, h) := fun _ _ => rfl
 simp only [isR, frzRes, dX_frz, dFrz, freeze, frz2, frzCells, hfs, hfr, e1, e2, if_true]
theorem bwdS_len (ax : Ax) : ∀ n (out t : List Sp), bwdS ax n out = some t → t.length = out.length := by
 intro n
 induction n with
 | zero => intro out t h; simp [bwdS] at h; rw [h]
 | succ n ih =>
  intro out t h
  rw [bwdS_succ] at h
  split at h
  ·cases h
  ·rw [ih _ _ h]; simp
theorem boundsS_len {ax : Ax} {o : List Sp} (h : boundsS ax = some o) : o.length = 13 := by
 rw [boundsS_def] at h
 cases hf : fwdS ax 13 with
 | none => rw [hf] at h; cases h
 | some out =>
  rw [hf] at h
  rw [bwdS_len ax 12 out o h, fwdS_len ax 13 out hf]
theorem K103h {X : Ctx} (hX : X.intr 103 = some (onHeap h103)) (sa ra mv : AV) (cx cy wx wy : Sp) (rs : List Rdg) (hr : slV rdgC ra = some rs) (hs : sa.one = true) (hm : mv.one = true) (h : Heap) :
  Cl X 103 [.agg [sa, .int .i64 cx.lo, .int .i64 cx.hi, .int .i64 cy.lo, .int .i64 cy.hi, .int .i64 wx.lo, .int .i64 wx.hi, .int .i64 wy.lo, .int .i64 wy.hi, ra, mv], .nilslice] h (.ret (knV (ax0 cx wx rs []) (ax1 cy wy rs [])) h none) :=
 Cl.intr hX (by
  have h1 : slV heldC .nilslice = some [] := rfl
  have h2 : (Nat.ble (rs.length + ([] : List Held).length) maxL && sa.one && mv.one) = true := by
   rw [hs, hm]
   simp [Nat.ble_eq]
   exact sl_max hr
  simp only [onHeap, h103, sp103, hr, h1, h2, if_true])
theorem sl_one {α : Type} {c : Cd α} {a : AV} {l : List α} (h : slV c a = some l) : a.one = true ∧ isTuple a = false := by
 rcases (slV_is h).1 with ⟨rfl | rfl, _⟩ | rfl <;> exact ⟨rfl, rfl⟩
end Go.AM
namespace Go.AM
open Go Go.Proofs
variable [Keep]
attribute [local irreducible] W WO WO1 WD WQ WT thenQ blockQ endR isRet retK Cl ClR
def marksOf (rs : List Rdg) : List Held := rs.map fun r => ⟨r.b, ⟨w64 (r.x - r.err), w64 (r.x + r.err)⟩, ⟨w64 (r.y - r.err), w64 (r.y + r.err)⟩⟩
def sp106 : List AV → Option AV
 | [.agg [sa, .int .i64 cxl, .int .i64 cxh, .int .i64 cyl, .int .i64 cyh, .int .i64 wxl, .int .i64 wxh, .int .i64 wyl, .int .i64 wyh, ra]] => match slV ptC sa, slV rdgC ra with
  | some _, some rs => some (slN ((marksOf rs).map heldC.enc))
  | _, _ => none
 | _ => none
theorem p106 : ∀ args v, sp106 args = some v → v.pur = true := by
 intro args v h
 unfold sp106 at h
 split at h
 ·split at h
  ·cases h; exact slN_pur (enc_pur heldC _)
  ·cases h
 ·cases h
noncomputable def cV : Itr
 | 158 => some (pureFn sp158)
 | _ => none
theorem cV_sound : Sound (dX cV) := dX_sound (fun f g h => by
 unfold cV at h
 split at h
 ·cases h; exact F158
 ·cases h)
set_option maxHeartbeats 1000000 in
theorem F106 : IntrFn Tryz.prog 106 (pureFn sp106) := by
 refine pure_fn (X := dX cV) cV_sound p106 ?_
 intro args v h
 unfold sp106 at h
 split at h
 ·rename_i sa cxl cxh cyl cyh wxl wxh wyl wyh ra
  split at h
  ·rename_i st rs hl hr
   cases h
   have hlen := sl_len hr
   have hout := sl_out hr
   have hmax := sl_max hr
   have hout2 := sl_out hl
   clear hl
   refine ClR.walk (c := _) rfl Tryz.func106 rfl (by kernel_rfl) rfl isRet_fail ?_
   simp only [entryEnv, Nat.reduceAdd]
   repeat' (first | refine goS ?_ | refine go2 (fun hh => ?_) (fun hh => ?_) | fail)
   refine W.loopN rs.length (fun k F => ∃ e lm hp u, F = Fr.mk 106 false e lm hp [] none ∧ Blt hp u 5 ((marksOf (rs.take k)).map heldC.enc) ∧ lm.get 1 = some (0, [sa, .int .i64 cxl, .int .i64 cxh, .int .i64 cyl, .int .i64 cyh, .int .i64 wxl, .int .i64 wxh, .int .i64 wyl, .int .i64 wyh, ra]) ∧ e.get 1 = some (.lptr 1 0 0) ∧ e.get 3 = some u ∧ e.get 4 = some (.int .i64 ↑k) ∧ k ≤ rs.length) ?_ ?_
   ·refine ⟨_, _, _, _, rfl, Blt.nil, ?_, ?_, ?_, ?_, ?_⟩ <;> first | exact Z2 | simp [go_sem, *]
   rintro k F ⟨e, lm, hp, u, rfl, hB, hl1, h1, h3, h4, hk⟩
   have hbo := hB.out
   by_cases hlt : k < rs.length
   ·obtain ⟨p, hp'⟩ := get_some hlt
    have hix := rdg_idx hr hp'
    have hd : decide ((k : Int) < (rs.length : Int)) = true := by simpa using hlt
    have hw := wrap_succ hlt hmax
    have hnx : marksOf (rs.take (k + 1)) = marksOf (rs.take k) ++ [⟨p.b, ⟨w64 (p.x - p.err), w64 (p.x + p.err)⟩, ⟨w64 (p.y - p.err), w64 (p.y + p.err)⟩⟩] := by rw [take_next hp']; simp [marksOf]
    have hll : ((marksOf (rs.take k)).map heldC.enc).length + 1 ≤ most := by
     simp only [marksOf, List.length_map, List.length_take]; unfold most; unfold maxL at hmax; omega
    have HX := Lib.hid hnx
    clear hr hp' hnx
    repeat' (first | (apply WO1.append (t := 156) (u := 156) (e := 181) (e' := 181) (sz := 5) (tl := []); (focus assumption); exact Z1; exact rfl; exact Z2; exact Z2; exact Z2; (focus (exact ty_row156)); exact Z1; (focus (intro v hv; simp at hv; rcases hv with rfl | rfl <;> rfl)); (focus (simp only [List.length_cons, List.length_nil]; exact hll)); (focus (simp)); (intro v' h' hB' ho' hK'; simp only [pM, pN])) | refine go1 ?_ | refine go2 (fun hh => ?_) (fun hh => ?_) | fail)
    refine ⟨hlt, _, _, _, v', rfl, ?_, ?_, ?_, ?_, ?_, by omega⟩
    ·rw [HX.out]; simpa [heldC, w64] using hB'
    all_goals exact Z2
   ·have hd : decide ((k : Int) < (rs.length : Int)) = false := by simpa using hlt
    have hkl : k = rs.length := by omega
    rw [hkl, List.take_length] at hB
    obtain ⟨h', hz, hz2, hz1⟩ := hB.freeze
    clear hkl hr
    repeat' (first | refine goS ?_ | refine go2 (fun hh => ?_) (fun hh => ?_) | fail)
    all_goals (simp only [resV_def (X := dX cV) Tryz.func106, Tryz.results106]; first | exact J5 | refine J6 ?_)
  ·cases h
 ·cases h
theorem K106 {X : Ctx} (hX : X.intr 106 = some (pureFn sp106)) (sa ra : AV) (st : List Pt) (rs : List Rdg) (cx cy wx wy : Sp) (hl : slV ptC sa = some st) (hr : slV rdgC ra = some rs) (h : Heap) :
  Cl X 106 [.agg [sa, .int .i64 cx.lo, .int .i64 cx.hi, .int .i64 cy.lo, .int .i64 cy.hi, .int .i64 wx.lo, .int .i64 wx.hi, .int .i64 wy.lo, .int .i64 wy.hi, ra]] h (.ret (slN ((marksOf rs).map heldC.enc)) h none) :=
 Cl.intr hX (by simp [pureFn, AV.pur, AV.purL, sl_pur hl, sl_pur hr, sp106, hl, hr])
def h159 (args : List AV) (h : Heap) : Option AV :=
 match args with
 | [.agg [.int .i64 cl, .int .i64 ch], .agg [.int .i64 wl, .int .i64 wh], .row id off len] => (match h.get id with
  | some (.rw sz el) => if (Nat.beq sz 2 && Nat.ble (off + len) el.length && AV.purL el) = true then (match decL spC ((el.drop off).take len) with
   | some l => if l.length = 13 then some (axisV ⟨⟨cl, ch⟩, ⟨wl, wh⟩, []⟩ l) else none
   | none => none) else none
  | _ => none)
 | _ => none
theorem lookS_pur (t : List Sp) : (lookS t).pur = true := by
 unfold lookS
 split
 ·rfl
 ·have := slN_pur (enc_pur spC t)
  simp [AV.pur, AV.purL, this]
theorem axisV_pur (ax : Ax) (l : List Sp) : (axisV ax l).pur = true := lookS_pur _
attribute [local irreducible] axisV
theorem hp159 : ∀ args h v, h159 args h = some v → v.pur = true := by
 intro args h v e
 unfold h159 at e
 split at e
 ·split at e
  ·split at e
   ·split at e
    ·split at e
     ·have e := Option.some.inj e
      rw [← e]
      exact axisV_pur _ _
     ·cases e
    ·cases e
   ·cases e
  ·cases e
 ·cases e
theorem H159 : IntrFn Tryz.prog 159 (onHeap h159) := by
 refine row_intr (X := dX cV) cV_sound hp159 ?_
 intro args h v hfr e
 unfold h159 at e
 split at e
 ·rename_i cl ch wl wh id off len
  split at e
  ·rename_i sz el hg
   split at e
   ·rename_i hc
    simp only [Bool.and_eq_true, Nat.ble_eq] at hc
    obtain ⟨⟨hz, hle⟩, hpu⟩ := hc
    have hz := Nat.eq_of_beq_eq_true hz
    subst hz
    split at e
    ·rename_i l hdl
     split at e
     ·rename_i h13
      have e := Option.some.inj e
      subst e
      have hid := hfr id _ hg
      have hget : ∀ id' b, ((Mp.nil : Mp Blk).set id (.rw 2 el)).get id' = some b → id' = id ∧ b = .rw 2 el := by
       intro id' b e
       by_cases hh : (id == id') = true
       ·have := beq_iff_eq.1 hh
        subst this
        rw [get_set_same] at e
        exact ⟨rfl, (Option.some.inj e).symm⟩
       ·rw [get_set_lit _ _ _ _ (by simpa using hh)] at e
        simp at e
      refine ⟨(Mp.nil : Mp Blk).set id (.rw 2 el), fun id' b e => ?_, ?_⟩
      ·obtain ⟨rfl, rfl⟩ := hget id' b e
       exact ⟨hg, 2, el, rfl, purL_mem.1 hpu⟩
      ·have hgm : (Heap.mk h.next ((Mp.nil : Mp Blk).set id (.rw 2 el))).get id = some (.rw 2 el) := get_set_same _ _ _
       have hel : (Heap.mk h.next ((Mp.nil : Mp Blk).set id (.rw 2 el))).elems (.row id off len) = some (l.map spC.enc) := by
        simp only [Heap.elems, hgm]
        rw [if_pos hle, decL_eq spC _ _ hdl]
       have q := C159 cV rfl rfl ⟨⟨cl, ch⟩, ⟨wl, wh⟩, []⟩ l (.row id off len) ⟨h.next, (Mp.nil : Mp Blk).set id (.rw 2 el)⟩ hel rfl h13
       unfold ClR Cl at q
       obtain ⟨r, ⟨k, q1⟩, h', q2, rfl⟩ := q
       exact ⟨_, k, q1 k (Nat.le_refl _), fun id' b e => by
        obtain ⟨rfl, rfl⟩ := hget id' b e
        exact (q2.2 _ hid).trans e⟩
     ·cases e
    ·cases e
   ·cases e
  ·cases e
 ·cases e
theorem K159 {X : Ctx} (hX : X.intr 159 = some (onHeap h159)) (c w : Sp) (l : List Sp) (id : Nat) (h : Heap) (hg : h.get id = some (.rw 2 (l.map spC.enc))) (h13 : l.length = 13) :
  Cl X 159 [.agg [.int .i64 c.lo, .int .i64 c.hi], .agg [.int .i64 w.lo, .int .i64 w.hi], .row id 0 13] h (.ret (axisV ⟨c, w, []⟩ l) h none) :=
 Cl.intr hX (by
  have h1 : Nat.ble (0 + 13) (l.map spC.enc).length = true := by rw [Nat.ble_eq]; simp [h13]
  have h2 : AV.purL (l.map spC.enc) = true := purL_mem.2 (enc_pur spC l)
  have h3 : ((l.map spC.enc).drop 0).take 13 = l.map spC.enc := by rw [List.drop_zero, List.take_of_length_le (by simp [h13])]
  have h0 : Nat.beq 2 2 = true := rfl
  simp only [onHeap, h159, hg, h0, h1, h2, h3, decL_map, Bool.and_self, if_true, h13])
end Go.AM
namespace Go.AM
open Go Go.Proofs
variable [Keep]
attribute [local irreducible] W WO WO1 WD WQ WT thenQ blockQ endR isRet retK Cl ClR
def Sep (a b : AV) : Prop := ∀ id o n o' n', a = .row id o n → b = .row id o' n' → False
theorem Blt.apart {h h' : Heap} {a b : AV} {sz : Nat} {l : List AV} (q : Blt h b sz l) (k : Keeps h h' a) (s : Sep a b) : Blt h' b sz l := by
 rcases q with q | ⟨id, h1, h2, h3, h4⟩
 ·exact .inl q
 ·refine .inr ⟨id, h1, ?_, Nat.lt_of_lt_of_le h3 k.1, h4⟩
  rw [k.2 id h3 (fun off n e => s id off n 0 l.length e h1)]
  exact h2
section
variable {X : Ctx} {ops : Array Oper} {K P : AV → Fr → Prop} {F : Fr} {d : Option Tmp} {T : TypeId} {p : String} {af : Array Edge}
theorem WO1.appendE {args : Array Operand} {at_ : Array TypeId} {t u e e' : TypeId} {tl : List TypeId} {sz : Nat} {x y : AV} {new l : List AV} (hb : Blt F.hp x sz l) (hargs : F.opvs args.toList = some [x, y]) (ht : at_.toList = t :: u :: tl) (hu : X.P.underlying u = some (.slice e'))
  (hel : elemT X.P t = some e) (hs : szT X.P e = sz) (hrow : rowable X.P e = true) (hy : F.hp.elems y = some new) (hsz : ∀ v ∈ new, v.cells.length = sz) (hlen : l.length + new.length ≤ most) (hne : new ≠ [])
  (h : ∀ v' h', Blt h' v' sz (l ++ new) → outV (some v') = some v' → Keeps F.hp h' x → v' = .row F.hp.next 0 (l ++ new).length → K v' (({ F with hp := h' } : Fr).put d v')) : WO1 X ops ⟨d, .call ⟨.builtin .append, args, at_⟩, T, p, af, none⟩ F K P := by
 subst hs
 obtain ⟨v', h', q1, q2, q3, q4⟩ := append_blt hel hrow hsz hb hlen hne
 refine U5 (v := v') (F' := { F with hp := h' }) rfl (fun cl rd => ?_) (h v' h' q2 q2.out q3 q4)
 simp only [efV, Fr.callOp, Fr.builtinE, Fr.appendE, ht, hargs, hu]
 cases y <;> first | (simp only [hy, q1, okO]; done) | simp [Heap.elems] at hy
end
theorem Blt.id_lt {h : Heap} {b : AV} {sz id o n : Nat} {l : List AV} (q : Blt h b sz l) (e : b = .row id o n) : id < h.next := by
 rcases q with ⟨h1, _⟩ | ⟨i, h1, h2, h3, h4⟩
 ·rw [h1] at e; cases e
 ·rw [h1] at e; cases e; exact h3
theorem Sep.symm {a b : AV} (s : Sep a b) : Sep b a := fun id o n o' n' e1 e2 => s id o' n' o n e2 e1
theorem Sep.new {h : Heap} {b : AV} {sz k : Nat} {l : List AV} (q : Blt h b sz l) (hk : h.next ≤ k) (n : Nat) : Sep (.row k 0 n) b := by
 intro id o m o' m' e1 e2
 cases e1
 have := q.id_lt e2
 omega
theorem Sep.nil (b : AV) : Sep .nilslice b := fun id o n o' n' e _ => by cases e
def ownS (sel : Held → Sp) : List Held → List Sp → List Sp
 | [], o => o
 | m :: r, o => ownS sel r (o.set m.b.toNat (interS (o.getD m.b.toNat ⟨0, 0⟩) (sel m)))
theorem ownS_len (sel : Held → Sp) : ∀ (ms : List Held) (o : List Sp), (ownS sel ms o).length = o.length := by
 intro ms
 induction ms with
 | nil => intro o; rfl
 | cons m r ih => intro o; simp [ownS, ih]
def wideS : Sp := ⟨-1000, 1000⟩
def initS : List Sp := List.replicate 13 wideS
def blkB (m : Held) : Bool := inB m.b 0 12
def mergeV (a b : AV) : AV := match a, b with
 | .tuple [x, .bool p], .tuple [y, .bool q] => .tuple [x, y, .bool (p && q)]
 | _, _ => .junk
def bothV (cx cy wx wy : Sp) (ms : List Held) : AV := mergeV (axisV ⟨cx, wx, []⟩ (ownS (·.x) ms initS)) (axisV ⟨cy, wy, []⟩ (ownS (·.y) ms initS))
theorem lookS_is (t : List Sp) : ∃ x p, lookS t = .tuple [x, .bool p] ∧ x.pur = true ∧ outV (some x) = some x ∧ (∀ hp : Heap, frz2 hp x = some (x, hp)) ∧ isTuple x = false := by
 unfold lookS
 split
 ·exact ⟨_, _, rfl, rfl, rfl, fun _ => rfl, rfl⟩
 ·exact ⟨_, _, rfl, slN_pur (enc_pur spC t), (slN_is _).out, (slN_is _).frz2, (slN_is _).tup⟩
def sp105 : List AV → Option AV
 | [.agg [sa, .int .i64 cxl, .int .i64 cxh, .int .i64 cyl, .int .i64 cyh, .int .i64 wxl, .int .i64 wxh, .int .i64 wyl, .int .i64 wyh, ra], ma] => match slV ptC sa, slV rdgC ra, slV heldC ma with
  | some _, some _, some ms => if ms.all blkB = true then some (bothV ⟨cxl, cxh⟩ ⟨cyl, cyh⟩ ⟨wxl, wxh⟩ ⟨wyl, wyh⟩ ms) else none
  | _, _, _ => none
 | _ => none
theorem bothV_is (cx cy wx wy : Sp) (ms : List Held) : ∃ x p y q, axisV ⟨cx, wx, []⟩ (ownS (·.x) ms initS) = .tuple [x, .bool p] ∧ axisV ⟨cy, wy, []⟩ (ownS (·.y) ms initS) = .tuple [y, .bool q] ∧ bothV cx cy wx wy ms = .tuple [x, y, .bool (p && q)] ∧
  x.pur = true ∧ y.pur = true ∧ outV (some x) = some x ∧ outV (some y) = some y ∧ (∀ hp : Heap, frz2 hp x = some (x, hp)) ∧ (∀ hp : Heap, frz2 hp y = some (y, hp)) ∧ isTuple x = false ∧ isTuple y = false := by
 obtain ⟨x, p, e1, e2, e3, e4, e5⟩ := lookS_is (backS ⟨cx, wx, []⟩ 12 (onR ⟨cx, wx, []⟩ 12 (ownS (·.x) ms initS)))
 obtain ⟨y, q, f1, f2, f3, f4, f5⟩ := lookS_is (backS ⟨cy, wy, []⟩ 12 (onR ⟨cy, wy, []⟩ 12 (ownS (·.y) ms initS)))
 refine ⟨x, p, y, q, e1, f1, ?_, e2, f2, e3, f3, e4, f4, e5, f5⟩
 unfold bothV axisV
 rw [e1, f1]
 rfl
attribute [local irreducible] axisV bothV
theorem p105 : ∀ args v, sp105 args = some v → v.pur = true := by
 intro args v h
 unfold sp105 at h
 split at h
 ·split at h
  ·split at h
   ·rename_i ms _ _
    have h := Option.some.inj h
    obtain ⟨x, p, y, q, _, _, e, h1, h2, _⟩ := bothV_is ⟨_, _⟩ ⟨_, _⟩ ⟨_, _⟩ ⟨_, _⟩ _
    rw [← h, e]
    simp [AV.pur, AV.purL, h1, h2]
   ·cases h
  ·cases h
 ·cases h
noncomputable def cW : Itr
 | 158 => some (pureFn sp158)
 | 159 => some (onHeap h159)
 | _ => none
theorem cW_sound : Sound (dX cW) := dX_sound (fun f g h => by
 unfold cW at h
 split at h
 ·cases h; exact F158
 ·cases h; exact H159
 ·cases h)
theorem mark_idx {a : AV} {l : List Held} (h : slV heldC a = some l) {k : Nat} {p : Held} (hp : l[k]? = some p) (H : Heap) : indexAddrV Tryz.prog H 156 a (.int .i64 ↑k) = some (.vptr [.int .i64 p.b, .int .i64 p.x.lo, .int .i64 p.x.hi, .int .i64 p.y.lo, .int .i64 p.y.hi]) :=
 (slV_is h).1.idx (x := heldC.enc p) Tryz.underlying156 ty_lay181 (by simp [hp]) rfl
end Go.AM
