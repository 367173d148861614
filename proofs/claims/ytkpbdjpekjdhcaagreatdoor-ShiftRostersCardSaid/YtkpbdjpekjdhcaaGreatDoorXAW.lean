/-
  A part of the proof: contracts of functions.
-/
import Derived.Test.YtkpbdjpekjdhcaaGreatDoorXAS
import Derived.Test.YtkpbdjpekjdhcaaGreatDoorXAJ
import Derived.Test.YtkpbdjpekjdhcaaGreatDoorXAU
import Derived.Test.YtkpbdjpekjdhcaaGreatDoorXAT
set_option linter.unusedSectionVars false
set_option linter.unusedVariables false
set_option linter.unusedSimpArgs false
set_option maxRecDepth 100000
namespace Go.AM
open Go Go.Proofs
variable [Keep]
attribute [local irreducible] W WO WO1 WD WQ WT thenQ blockQ endR isRet retK Cl ClR
open Go.TX (Rm Fa Ha Hs)
attribute [local irreducible] runsB madeR madeF drawnP sumW
theorem sumW_app (l : List Int) (x : Int) : sumW (l ++ [x]) = w64 (sumW l + x) := by unfold sumW; rw [List.foldl_append]; rfl
theorem drawn_next {m : Hs} {f : Fl} {r kk j : Nat} {p : Fa} (hp : m.fans[j]? = some p) : sumW (drawnP m f r kk (j + 1)) = if ((p.room == (r : Int)) && drawsB f j kk) = true then w64 (sumW (drawnP m f r kk j) + p.draws) else sumW (drawnP m f r kk j) := by
 conv => lhs; unfold drawnP
 simp only [hp]
 split
 ·rw [sumW_app]
 ·rfl
def sizedB (m : Hs) (g : List (List Int)) (x : Fk) : Bool := (g.all fun r => (r.length : Int) == m.hours) && ((g.length : Int) == m.rooms.length) && isFail m x
def rowFit (m : Hs) (g : List (List Int)) (i : Nat) : Bool := (g.getD i []).all fun n => inB n (m.rooms.getD i rm0).lo (m.rooms.getD i rm0).hi
def fitsB (m : Hs) (g : List (List Int)) : Bool := (List.range m.rooms.length).all (rowFit m g)
section
variable {c : Itr}
set_option maxHeartbeats 4000000 in
theorem C128 (hc : CxR c) (m : Hs) (f : Fl) (ra fa oa ha : AV) (hm : HsA m ra fa oa ha) (hfl : m.fans.length <= 1000) (r kk : Nat) (h : Heap) :
  Cl (dX c) 128 [.agg [.int .i64 m.hours, ra, fa, oa, ha], fkC.enc f.tell, .int .i64 (r : Int), .int .i64 (kk : Int)] h (.ret (.int .i64 (sumW (drawnP m f r kk m.fans.length))) h none) := by
 refine ClR.cl ?_
 have l2 := sl_len hm.f
 have o1 := sl_out hm.r
 have o2 := sl_out hm.f
 have o3 := sl_out hm.o
 have o4 := sl_out hm.h
 have h0 := hc.h128
 have H2 := J1 hm.f
 have HFL := J1 hfl
 clear hm hc hfl
 obtain ⟨fw, fn, fh, hfk, hdr⟩ : ∃ a b d : Int, f.tell = ⟨a, b, d⟩ /\ ∀ j : Nat, drawsB f j kk = !((a == 2) && (b == (j : Int)) && decide ((kk : Int) >= d)) := by
  cases f with
  | no => exact ⟨1, 0, 0, rfl, fun j => rfl⟩
  | mach x y => exact ⟨3, x, y, rfl, fun j => rfl⟩
  | fan x y =>
   refine ⟨2, x, y, rfl, fun j => ?_⟩
   simp only [drawsB, beq_self_eq_true, Bool.true_and]
   have e1 : ((j : Int) != x) = !(x == (j : Int)) := by
    rw [Bool.eq_iff_iff]; simp only [bne_iff_ne, Bool.not_eq_true', beq_eq_false_iff_ne, ne_eq]
    exact ⟨fun a b => a b.symm, fun a b => a b.symm⟩
   have e2 : decide ((kk : Int) < y) = !decide ((kk : Int) >= y) := by
    rw [Bool.eq_iff_iff]; simp
   rw [e1, e2, Bool.not_and]
 rw [hfk]
 have hS : sumW (drawnP m f r kk 0) = 0 := by unfold drawnP sumW; rfl
 have HS0 := J1 hS
 simp only [fkC]
 clear hfk hS
 refine ClR.walk (c := _) h0 Tryz.func128 rfl (by kernel_rfl) rfl (fun e => by cases e) ?_
 simp only [entryEnv, Nat.reduceAdd, List.nil_append, List.cons_append, emptyHp]
 repeat' (first | refine goS ?_ | (refine go2 ?_ ?_ <;> intro hh) | fail)
 refine W.loopH (m.fans.length) [2, 3, 4, 5] [4, 5] (fun k e lm => e.get 10 = some (.int .i64 ↑k) /\ e.get 9 = some (.int .i64 (sumW (drawnP m f r kk k)))) ?_ ?_
 ·skip
  refine ⟨?_, ?_⟩
  ·simp [go_sem, *]
  ·rw [HS0.out]; simp only [go_sem, *, Nat.reduceLT, Int.reduceEq, Int.reduceBEq, Int.reduceLE, Int.reduceLT, Nat.reduceAdd, Nat.reduceBEq, Nat.reduceEqDiff, reduceIte, Nat.reduceLeDiff, Nat.reduceMul, Nat.reduceSub, reduceCtorEq]
 intro k e lm hk0 hce hcl hinv
 simp only [keepE, and_true] at hce
 obtain ⟨c2, c3, c4, c5⟩ := hce
 simp only [go_sem, *, Nat.reduceBEq, Nat.reduceEqDiff, reduceIte] at c2 c3 c4 c5
 simp only [keepL, and_true] at hcl
 obtain ⟨d4, d5⟩ := hcl
 simp only [go_sem, *, Nat.reduceBEq, Nat.reduceEqDiff, reduceIte] at d4 d5
 obtain ⟨h10, h9⟩ := hinv
 by_cases hlt : k < m.fans.length
 ·have hd0 : decide ((k : Int) < ((m.fans.length : Nat) : Int)) = true := by first | (simpa using hlt; done) | (simp only [decide_eq_true_eq]; omega)
  have hv_0 := wrap_succ hlt (by have := HFL.out; unfold maxL; omega)
  obtain ⟨p, hp'⟩ := get_some hlt
  have hix := fun H => fas_idx H2.out hp' H
  have hms := drawn_next (m := m) (f := f) (r := r) (kk := kk) hp'
  rw [hdr] at hms
  have HLT0 := J1 hlt
  generalize hq : sumW (drawnP m f r kk (k + 1)) = y1 at *
  generalize sumW (drawnP m f r kk k) = y0 at *
  have HQ := J1 hq
  clear hp' hlt hq
  cases b1 : (fw == 2) <;> cases b2 : (fn == (k : Int)) <;> cases b3 : decide ((kk : Int) >= fh) <;> cases b4 : (p.room == (r : Int))
  all_goals
   rw [b1, b2, b3, b4] at hms
   have hw : y1 = y0 \/ IntKind.i64.wrap (y0 + p.draws) = y1 := by rw [hms]; simp [w64]
   have hw2 := hms
   simp only [Bool.and_self, Bool.not_true, Bool.not_false, Bool.and_true, Bool.and_false, Bool.false_and, Bool.true_and, Bool.false_eq_true, if_true, if_false, w64] at hw2
   have HW := J1 hw2
   clear hms hw hw2
   repeat' (first | refine goS ?_ | (refine go2 ?_ ?_ <;> intro hh) | fail)
   all_goals refine contH_mk J9 J7 J8 ?_
   all_goals refine ⟨?_, ?_⟩
   all_goals first | exact Z2 | skip
   rw [HQ.out, HW.out]
   simp only [go_sem, *, Nat.reduceLT, Int.reduceEq, Int.reduceBEq, Int.reduceLE, Int.reduceLT, Nat.reduceAdd, Nat.reduceBEq, Nat.reduceEqDiff, reduceIte, Nat.reduceLeDiff, Nat.reduceMul, Nat.reduceSub, reduceCtorEq]
 ·have hd0 : decide ((k : Int) < ((m.fans.length : Nat) : Int)) = false := by first | (simpa using hlt; done) | (simp only [decide_eq_false_iff_not]; omega)
  obtain rfl : k = m.fans.length := by omega
  repeat' (first | refine goS ?_ | (refine go2 ?_ ?_ <;> intro hh) | fail)
  all_goals (simp only [resV_def (X := dX c) Tryz.func128, Tryz.results128]; first | exact J5 | refine J6 ?_)
  all_goals rfl
end
end Go.AM
namespace Go.AM
open Go Go.Proofs
variable [Keep]
attribute [local irreducible] W WO WO1 WD WQ WT thenQ blockQ endR isRet retK Cl ClR
open Go.TX (Rm Fa Ha Hs)
attribute [local irreducible] runsB madeR madeF drawnP sumW rowF nowF
theorem lisL_rows : ∀ (g : List (List Int)), (∀ l ∈ g, l.length <= maxL) -> lisL (rowsE g) = some g
 | [], _ => rfl
 | l :: g, h => by
  have h1 : slV intC (slN (intsE l)) = some l := ints_sl l (h l (by simp))
  have h2 := lisL_rows g fun x hx => h x (by simp [hx])
  simp only [rowsE, List.map_cons] at h2 ⊢
  simp only [lisL, h1, h2]
theorem rows_lis {g : List (List Int)} (h : g.length <= maxL) (hm : ∀ l ∈ g, l.length <= maxL) : lisV (slN (rowsE g)) = some g := by
 have h1 := lisL_rows g hm
 cases g with
 | nil => rfl
 | cons a r =>
  show lisV (.vslice (rowsE (a :: r))) = _
  unfold lisV
  simp only
  rw [if_pos (by rw [rowsE_len]; exact h), h1]
theorem Blt.toN {h : Heap} {v : AV} {sz : Nat} {l : List AV} (q : Blt h v sz l) : BltN 0 h v sz l := by
 rcases q with q | ⟨id, h1, h2, h3, h4⟩
 ·exact .inl q
 ·exact .inr ⟨id, h1, h2, Nat.zero_le _, h3, h4⟩
def mdG (g : List (List Int)) (r : Nat) (k : Nat) : Int := (g.getD r []).getD k 0
def runL (m : Hs) (f : Fl) (g : List (List Int)) (nn : Nat) : Nat -> List (List Int)
 | 0 => []
 | r + 1 => runL m f g nn r ++ [rowF m f r (mdG g r) nn]
theorem runL_len (m : Hs) (f : Fl) (g : List (List Int)) (nn : Nat) : ∀ r, (runL m f g nn r).length = r := by
 intro r
 induction r with
 | zero => rfl
 | succ r ih => simp [runL, ih]
theorem row_next (m : Hs) (f : Fl) (r : Nat) (md : Nat -> Int) (k : Nat) : rowF m f r md (k + 1) = rowF m f r md k ++ [nowF m f r md (k + 1)] := by conv => lhs; unfold rowF
theorem now_next (m : Hs) (f : Fl) (r : Nat) (md : Nat -> Int) (k : Nat) : nowF m f r md (k + 1) = maxV 0 (w64 ((if runsB m f r k = true then w64 (nowF m f r md k + md k) else nowF m f r md k) - sumW (drawnP m f r k m.fans.length))) := by conv => lhs; unfold nowF
theorem now_zero (m : Hs) (f : Fl) (r : Nat) (md : Nat -> Int) : nowF m f r md 0 = (m.rooms.getD r rm0).stt := by unfold nowF; rfl
theorem row_zero (m : Hs) (f : Fl) (r : Nat) (md : Nat -> Int) : rowF m f r md 0 = [] := by unfold rowF; rfl
theorem rowsE_map (g : List (List Int)) : slN ((g.map intsE).map slN) = slN (rowsE g) := by unfold rowsE; rw [List.map_map]; rfl
def sp78 : List AV -> Option AV
 | [x, .agg [dv, .int .i64 w, .int .i64 a, .int .i64 b]] => match hsV x, lisV dv with
  | some m, some g => if (houseB m && sizedB m g ⟨w, a, b⟩) = true then (match findF ⟨w, a, b⟩ (failsH m) with
   | some f => some (slN (rowsE (runL m f g m.hours.toNat m.rooms.length)))
   | none => none) else none
  | _, _ => none
 | _ => none
theorem sized_is {m : Hs} {g : List (List Int)} {x : Fk} (h : sizedB m g x = true) : (∀ r ∈ g, (r.length : Int) = m.hours) /\ g.length = m.rooms.length /\ isFail m x = true := by
 unfold sizedB at h
 simp only [Bool.and_eq_true, List.all_eq_true, beq_iff_eq] at h
 exact ⟨h.1.1, by omega, h.2⟩
set_option maxHeartbeats 8000000 in
theorem R78 (m : Hs) (f : Fl) (ra fa oa ha dv : AV) (g : List (List Int)) (hm : HsA m ra fa oa ha) (hg : lisV dv = some g) (ho : HOk m) (hgl : g.length = m.rooms.length) (hgr : ∀ r ∈ g, (r.length : Int) = m.hours) :
  ClR (dX cR) 78 [.agg [.int .i64 m.hours, ra, fa, oa, ha], .agg [dv, .int .i64 f.tell.what, .int .i64 f.tell.num, .int .i64 f.tell.hour]] emptyHp (isQ (slN (rowsE (runL m f g m.hours.toNat m.rooms.length)))) := by
 obtain ⟨nn, hnn, hnt, hn1, hn4, hol⟩ := ho_parts ho
 have hr3 := ho.rooms
 have hf4 := ho.fans
 have l1 := sl_len hm.r
 have o1 := sl_out hm.r
 have o2 := sl_out hm.f
 have o3 := sl_out hm.o
 have o4 := sl_out hm.h
 have ld := lis_len hg
 have od := lis_out hg
 have hruns := fun (r k : Nat) (hrl : r < m.rooms.length) (hkl : k < nn) (h : Heap) => C109 hcR m f ra fa oa ha hm r k hrl (by omega) (ho_set ho) (by omega) h
 have hdraw := fun (r k : Nat) (h : Heap) => C128 hcR m f ra fa oa ha hm (by omega) r k h
 rw [hnt]
 rw [hnn] at hruns hdraw hgr ⊢
 have H1 := J1 hm.r
 have HG := J1 hg
 have HRUNS := J1 hruns
 have HDRAW := J1 hdraw
 have HN := J1 hn4
 have HR := J1 hr3
 have HGL := J1 hgl
 have HGR := J1 hgr
 have hmx : ∀ a b : Int, foldV maxV .i64 a [.int .i64 b] = some (.int .i64 (maxV a b)) := fun _ _ => rfl
 clear hm ho hruns hdraw hnt hnn hol hn1 hn4 hr3 hf4 hg hgl hgr
 simp only [fkC] at HRUNS HDRAW
 refine ClR.walk (c := _) rfl Tryz.func78 rfl (by kernel_rfl) rfl isQ_fail ?_
 try simp only [entryEnv, Nat.reduceAdd, List.nil_append, List.cons_append, emptyHp]
 repeat' (first | refine goS ?_ | (refine go2 ?_ ?_ <;> intro hh) | fail)
 refine W.loopV (m.rooms.length) [2, 3] [2, 3] (fun k e lm hp => ∃ v, e.get 6 = some (.int .i64 ↑k) /\ e.get 5 = some (v) /\ Blt2 hp v 1 ((runL m f g nn k).map intsE)) ?_ ?_
 ·skip
  refine ⟨.nilslice, ?_, ?_, Blt2.nil⟩
  all_goals first | exact Z2 | (simp [go_sem, *]; done) | skip
 intro k e lm hp hk0 hce hcl hinv
 simp only [keepE, and_true] at hce
 obtain ⟨c2, c3⟩ := hce
 simp only [go_sem, *, Nat.reduceBEq, Nat.reduceEqDiff, reduceIte] at c2 c3
 simp only [keepL, and_true] at hcl
 obtain ⟨d2, d3⟩ := hcl
 simp only [go_sem, *, Nat.reduceBEq, Nat.reduceEqDiff, reduceIte] at d2 d3
 obtain ⟨v, h6, h5, hB⟩ := hinv
 by_cases hlt : k < m.rooms.length
 ·have hd0 : decide ((k : Int) < ((m.rooms.length : Nat) : Int)) = true := by first | (simpa using hlt; done) | (simp only [decide_eq_true_eq]; omega)
  have hv_0 := wrap_succ hlt (by have := HR.out; unfold maxL; omega)
  obtain ⟨p, hp'⟩ := get_some hlt
  have hix := fun H => rms_idx H1.out hp' H
  obtain ⟨r, hr⟩ := get_some (l := g) (k := k) (by have := HGL.out; omega)
  obtain ⟨b, hb1, hb2⟩ := lis_idx HG.out hr
  have ob := sl_out hb1
  have hcb := (slV_is hb1).1.cells
  have htb := (slV_is hb1).1.tup
  simp only [AV.cells] at hcb
  simp only [isTuple] at htb
  have hrl := HGR.out r (List.mem_of_getElem? hr)
  have hst : p.stt = nowF m f k (mdG g k) 0 := by rw [now_zero]; simp [List.getD, hp']
  have hmd : ∀ j n, r[j]? = some n -> mdG g k j = n := by intro j n e; simp [mdG, List.getD, hr, e]
  have hbo := hB.out
  have HB0 := J1 hB
  have HB1 := J1 hb1
  have HRL := J1 hrl
  have HMD := J1 hmd
  have HLT0 := J1 hlt
  clear hp' hr hb1 hrl hmd hlt hB
  repeat' (first | refine goS ?_ | (refine go2 ?_ ?_ <;> intro hh) | fail)
  refine W.loopV (nn) [2, 3, 5, 6] [2, 3] (fun j e1 lm1 hp1 => ∃ u, e1.get 9 = some (.int .i64 ↑j) /\ e1.get 7 = some (u) /\ e1.get 8 = some (.int .i64 (nowF m f k (mdG g k) j)) /\ BltN hp.next hp1 u 1 (intsE (rowF m f k (mdG g k) j)) /\ HExt hp hp1) ?_ ?_
  ·skip
   refine ⟨.nilslice, ?_, ?_, ?_, ?_, HExt.refl _⟩
   all_goals first | exact Z2 | (simp [go_sem, *]; done) | skip
   ·rw [row_zero]; exact BltN.nil
  intro j e1 lm1 hp1 hk1 hce hcl hinv
  simp only [keepE, and_true] at hce
  obtain ⟨c2, c3, c5, c6⟩ := hce
  simp only [go_sem, *, Nat.reduceBEq, Nat.reduceEqDiff, reduceIte] at c2 c3 c5 c6
  simp only [keepL, and_true] at hcl
  obtain ⟨d2, d3⟩ := hcl
  simp only [go_sem, *, Nat.reduceBEq, Nat.reduceEqDiff, reduceIte] at d2 d3
  obtain ⟨u, h9, h7, h8, hB, hX⟩ := hinv
  by_cases hjt : j < nn
  ·have hd1 : decide ((j : Int) < ((nn : Nat) : Int)) = true := by first | (simpa using hjt; done) | (simp only [decide_eq_true_eq]; omega)
   have hv_1 := wrap_succ hjt (by have := HN.out; unfold maxL; omega)
   obtain ⟨n, hn⟩ := get_some (l := r) (k := j) (by have := HRL.out; omega)
   have hixn := fun H => ints_idx HB1.out hn H
   have hmd := HMD.out j n hn
   have hns := now_next m f k (mdG g k) j
   have k109 := fun h => HRUNS.out k j HLT0.out hjt h
   have k128 := fun h => HDRAW.out k j h
   have hbo1 := hB.blt.out
   have hll : (intsE (rowF m f k (mdG g k) j)).length + 1 <= most := by
    rw [intsE_len, row_len]; have := HN.out; unfold most; omega
   have hro := row_next m f k (mdG g k) j
   rw [hmd] at hns
   have HLT1 := J1 hjt
   have HRO := J1 hro
   clear hn hmd hjt hro
   generalize hq : nowF m f k (mdG g k) (j + 1) = y1 at *
   generalize nowF m f k (mdG g k) j = y0 at *
   have HQ := J1 hq
   clear hq
   cases hb : runsB m f k j with
   | true =>
    rw [hb] at hns k109
    have hw : maxV 0 (IntKind.i64.wrap (IntKind.i64.wrap (y0 + n) - sumW (drawnP m f k j m.fans.length))) = y1 := by rw [hns]; rfl
    clear hns hb
    generalize sumW (drawnP m f k j m.fans.length) = sd at *
    repeat' (first | (apply WO1.appendN (t := 24) (u := 24) (e := 3) (e' := 3) (sz := 1) (tl := []) (hb := hB) (hx := HExt.pair hX); exact Z1; exact rfl; exact Z2; exact Z2; exact Z2; (focus (exact ty_row24)); exact Z1; (focus (intro v hv; simp at hv; subst hv; first | rfl | exact hsc)); (focus (simp only [List.length_map, List.length_cons, List.length_nil]; exact hll)); (focus (simp)); (intro v' h' hB' ho' hX'; have hcc' := hB'.blt.cells; have htt' := hB'.blt.tup; simp only [AV.cells] at hcc'; simp only [isTuple] at htt'; simp only [pM, pN])) | refine go1 ?_ | (apply U6; exact Z1; exact Z1; (focus (first | exact k109 _ | exact k128 _)); simp only [pM, pN, rR, rP]) | (refine go2 ?_ ?_ <;> intro hh) | fail)
    all_goals refine contV_mk (by first | assumption | exact HLT1.out) J7 J8 ?_
    all_goals refine ⟨v', ?_, ?_, ?_, ?_, hX'⟩
    all_goals first | exact Z2 | skip
    ·rw [HQ.out]; simp only [go_sem, *, Nat.reduceLT, Int.reduceEq, Int.reduceBEq, Int.reduceLE, Int.reduceLT, Nat.reduceAdd, Nat.reduceBEq, Nat.reduceEqDiff, reduceIte, Nat.reduceLeDiff, Nat.reduceMul, Nat.reduceSub, reduceCtorEq]
    ·rw [HRO.out, intsE_app]; exact hB'
   | false =>
    rw [hb] at hns k109
    have hw : maxV 0 (IntKind.i64.wrap (y0 - sumW (drawnP m f k j m.fans.length))) = y1 := by rw [hns]; rfl
    clear hns hb
    generalize sumW (drawnP m f k j m.fans.length) = sd at *
    repeat' (first | (apply WO1.appendN (t := 24) (u := 24) (e := 3) (e' := 3) (sz := 1) (tl := []) (hb := hB) (hx := HExt.pair hX); exact Z1; exact rfl; exact Z2; exact Z2; exact Z2; (focus (exact ty_row24)); exact Z1; (focus (intro v hv; simp at hv; subst hv; first | rfl | exact hsc)); (focus (simp only [List.length_map, List.length_cons, List.length_nil]; exact hll)); (focus (simp)); (intro v' h' hB' ho' hX'; have hcc' := hB'.blt.cells; have htt' := hB'.blt.tup; simp only [AV.cells] at hcc'; simp only [isTuple] at htt'; simp only [pM, pN])) | refine go1 ?_ | (apply U6; exact Z1; exact Z1; (focus (first | exact k109 _ | exact k128 _)); simp only [pM, pN, rR, rP]) | (refine go2 ?_ ?_ <;> intro hh) | fail)
    all_goals refine contV_mk (by first | assumption | exact HLT1.out) J7 J8 ?_
    all_goals refine ⟨v', ?_, ?_, ?_, ?_, hX'⟩
    all_goals first | exact Z2 | skip
    ·rw [HQ.out]; simp only [go_sem, *, Nat.reduceLT, Int.reduceEq, Int.reduceBEq, Int.reduceLE, Int.reduceLT, Nat.reduceAdd, Nat.reduceBEq, Nat.reduceEqDiff, reduceIte, Nat.reduceLeDiff, Nat.reduceMul, Nat.reduceSub, reduceCtorEq]
    ·rw [HRO.out, intsE_app]; exact hB'
  ·have hd1 : decide ((j : Int) < ((nn : Nat) : Int)) = false := by first | (simpa using hjt; done) | (simp only [decide_eq_false_iff_not]; omega)
   obtain rfl : j = nn := by omega
   have hB2 := HB0.out.keep hX
   have hin := InR.of (h0 := hp) hB HB0.out.below
   obtain ⟨el, hbl, hel, hall⟩ := hB2
   have hA := hbl.toN
   have hbo1 := hB.blt.out
   have hcc := hB.blt.cells
   have htt := hB.blt.tup
   have hsc : u.cells.length = 1 := by rw [hcc]; rfl
   simp only [AV.cells] at hcc
   simp only [isTuple] at htt
   have hll : el.length + 1 <= most := by rw [hel, List.length_map, runL_len]; have := HR.out; have := HLT0.out; unfold most; omega
   have HIN := J1 hin
   have HEL := J1 hel
   have HALL := J1 hall
   clear hB hX hin hel hall hbl
   repeat' (first | (apply WO1.appendX (t := 36) (u := 36) (e := 24) (e' := 24) (sz := 1) (tl := []) (b := 0) (h0 := ⟨0, .nil⟩) (hb := hA) (hx := ⟨Nat.zero_le _, fun id h => absurd h (Nat.not_lt_zero id)⟩); exact Z1; exact rfl; exact Z2; exact Z2; exact Z2; (focus (exact ty_row36)); exact Z1; (focus (intro v hv; simp at hv; subst hv; first | rfl | exact hsc)); (focus (simp only [List.length_map, List.length_cons, List.length_nil]; exact hll)); (focus (simp)); (intro v' h' hB' ho' hK' hE' hX'; have hcc' := hB'.blt.cells; have htt' := hB'.blt.tup; simp only [AV.cells] at hcc'; simp only [isTuple] at htt'; simp only [pM, pN])) | refine go1 ?_ | (refine go2 ?_ ?_ <;> intro hh) | fail)
   all_goals refine contV_mk (by first | assumption | exact HLT1.out) J7 J8 ?_
   all_goals refine ⟨v', ?_, ?_, ?_⟩
   all_goals first | exact Z2 | skip
   ·rw [runL, List.map_append]
    exact Blt2.app HALL.out HEL.out hK' hB'.blt hE' HIN.out
 ·have hd0 : decide ((k : Int) < ((m.rooms.length : Nat) : Int)) = false := by first | (simpa using hlt; done) | (simp only [decide_eq_false_iff_not]; omega)
  obtain rfl : k = m.rooms.length := by omega
  have hfr : Frz hp v (slN (rowsE (runL m f g nn m.rooms.length))) := by
   rw [<- rowsE_map]
   refine hB.frz (fun l hl e he => ?_) (fun l hl e he x hx => ?_)
   ·obtain ⟨l', _, rfl⟩ := List.mem_map.1 hl
    obtain ⟨n, _, rfl⟩ := List.mem_map.1 he
    rfl
   ·obtain ⟨l', _, rfl⟩ := List.mem_map.1 hl
    obtain ⟨n, _, rfl⟩ := List.mem_map.1 he
    simp only [AV.cells, List.mem_singleton] at hx
    subst hx
    exact ⟨rfl, rfl⟩
  have hbo := hB.out
  have HFR := J1 hfr
  clear hB hfr
  repeat' (first | refine goS ?_ | (refine go2 ?_ ?_ <;> intro hh) | fail)
  all_goals (simp only [resV_def (X := dX cR) Tryz.func78, Tryz.results78]; first | exact J5 | refine J6 ?_)
  exact isQ_ret HFR.out
theorem F78 : IntrFn Tryz.prog 78 (newQ sp78) := newQ_fn (X := dX cR) cR_sound fun args v h => by
 unfold sp78 at h
 split at h
 ·split at h
  ·rename_i m g hm hg
   split at h
   ·rename_i hw
    simp only [Bool.and_eq_true] at hw
    split at h
    ·rename_i f hf
     have h := Option.some.inj h
     subst h
     obtain ⟨ra, fa, oa, ha, rfl, hA⟩ := hs_parts' hm
     obtain ⟨s1, s2, s3⟩ := sized_is hw.2
     obtain ⟨_, ht⟩ := find_some hf
     have := R78 m f ra fa oa ha _ g hA hg (house_ok hw.1) s2 s1
     rw [ht] at this
     exact this
    ·cases h
   ·cases h
  ·cases h
 ·cases h
end Go.AM
namespace Go.AM
open Go Go.Proofs
variable [Keep]
attribute [local irreducible] W WO WO1 WD WQ WT thenQ blockQ endR isRet retK Cl ClR
open Go.TX (Rm Fa Ha Hs)
attribute [local irreducible] runsB madeR madeF drawnP sumW rowF nowF houseB fitsB
def LsI (dv : AV) (g : List (List Int)) : Prop := ∃ es : List AV, isSl dv es /\ es.length = g.length /\ ∀ (k : Nat) (l : List Int), g[k]? = some l -> ∃ b, es[k]? = some b /\ isSl b (intsE l)
theorem LsI.idx {dv : AV} {g : List (List Int)} (q : LsI dv g) {k : Nat} {l : List Int} (hk : g[k]? = some l) : ∃ b, isSl b (intsE l) /\ ∀ H, indexAddrV Tryz.prog H 36 dv (.int .i64 ↑k) = some (.vptr [b]) := by
 obtain ⟨es, h1, h2, h3⟩ := q
 obtain ⟨b, e1, e2⟩ := h3 k l hk
 refine ⟨b, e2, fun H => ?_⟩
 have := h1.idx (hp := H) (x := b) (m := 1) Tryz.underlying36 ty_lay24 e1 (by rw [e2.cells]; rfl)
 rw [e2.cells] at this
 exact this
theorem LsI.len {dv : AV} {g : List (List Int)} (q : LsI dv g) : lenS dv = some g.length := by
 obtain ⟨es, h1, h2, h3⟩ := q
 rw [h1.len, h2]
theorem LsI.out {dv : AV} {g : List (List Int)} (q : LsI dv g) : outV (some dv) = some dv := by
 obtain ⟨es, h1, h2, h3⟩ := q
 exact h1.out
section
variable {c : Itr}
set_option maxHeartbeats 4000000 in
theorem C29 (h29 : c 29 = none) (h34 : c 34 = some (flatFnD sp34)) (a b : AV) (g : List (List Int)) (ha : lisV a = some g) (hb : lisV b = some g) (h : Heap) : Cl (dX c) 29 [a, b] h (.ret (.bool true) h none) := by
 refine ClR.cl ?_
 have la := lis_len ha
 have oa := lis_out ha
 have lb := lis_len hb
 have ob := lis_out hb
 have md := lis_max ha
 have HA := J1 ha
 have HB := J1 hb
 have hne : ((g.length : Int) != (g.length : Int)) = false := by simp
 clear ha hb
 refine ClR.walk (c := _) h29 Tryz.func29 rfl (by kernel_rfl) rfl (fun e => by cases e) ?_
 try simp only [entryEnv, Nat.reduceAdd, List.nil_append, List.cons_append, emptyHp]
 repeat' (first | refine goS ?_ | (refine go2 ?_ ?_ <;> intro hh) | fail)
 refine W.loopH (g.length) [0, 1] [] (fun k e lm => e.get 5 = some (.int .i64 ↑k)) ?_ ?_
 ·first | exact Z2 | rfl | assumption | (simp [go_sem, *]; done)
 intro k e lm hk0 hce hcl hinv
 simp only [keepE, and_true] at hce
 obtain ⟨c0, c1⟩ := hce
 simp only [go_sem, *, Nat.reduceBEq, Nat.reduceEqDiff, reduceIte] at c0 c1
 clear hcl
 have h5 := hinv
 clear hinv
 by_cases hlt : k < g.length
 ·have hd0 : decide ((k : Int) < ((g.length : Nat) : Int)) = true := by first | (simpa using hlt; done) | (simp only [decide_eq_true_eq]; omega)
  have hv_0 := wrap_succ hlt md
  obtain ⟨r, hr⟩ := get_some hlt
  obtain ⟨b1, hb1, hx1⟩ := lis_idx HA.out hr
  obtain ⟨b2, hb2, hx2⟩ := lis_idx HB.out hr
  have ob1 := sl_out hb1
  have hcb1 := (slV_is hb1).1.cells
  have htb1 := (slV_is hb1).1.tup
  have ob2 := sl_out hb2
  have hcb2 := (slV_is hb2).1.cells
  have htb2 := (slV_is hb2).1.tup
  simp only [AV.cells] at hcb1 hcb2
  simp only [isTuple] at htb1 htb2
  have k34 := fun h => K34 (X := dX c) h34 (SeeV.of hb1 h) (SeeV.of hb2 h)
  have hdr : decide (r = r) = true := by simp
  have HLT0 := J1 hlt
  clear hb1 hb2 hr hlt
  repeat' (first | (apply W.drawQ (id := 6) (l1 := [0, 1, 2, 3, 4, 5, 6, 7, 8, 9]) (l2 := []); kernel_rfl; kernel_rfl; kernel_rfl; exact Z4) | refine go1 ?_ | (apply U6; exact Z1; exact Z1; (exact k34 _); simp only [pM, pN, rR, rP]) | (refine go2 ?_ ?_ <;> intro hh) | fail)
  all_goals refine contH_mk J9 J7 J8 ?_
  all_goals first | exact Z2 | skip
 ·have hd0 : decide ((k : Int) < ((g.length : Nat) : Int)) = false := by first | (simpa using hlt; done) | (simp only [decide_eq_false_iff_not]; omega)
  obtain rfl : k = g.length := by omega
  repeat' (first | refine goS ?_ | (refine go2 ?_ ?_ <;> intro hh) | fail)
  all_goals (simp only [resV_def (X := dX c) Tryz.func29, Tryz.results29]; first | exact J5 | refine J6 ?_)
  all_goals rfl
end
theorem viewV_p {h : Heap} {a : AV} (hp : a.pur = true) : viewV h a = some a := by
 cases a <;> first | (simp [AV.pur] at hp; done) | (simp only [viewV, hp, if_true]; done)
theorem viewVs_p {h : Heap} : ∀ {l : List AV}, AV.purL l = true -> viewVs h l = some l
 | [], _ => rfl
 | a :: r, hp => by
  simp only [AV.purL, Bool.and_eq_true] at hp
  simp only [viewVs, viewV_p hp.1, viewVs_p hp.2]
theorem viewD_p {h : Heap} {a : AV} (hp : a.pur = true) : viewD h a = some a := by
 cases a with
 | agg l => simp only [viewD, viewVs_p (l := l) (by simpa [AV.pur] using hp), Option.map_some]
 | _ => exact viewV_p (h := h) hp
theorem viewDs_p {h : Heap} : ∀ {l : List AV}, AV.purL l = true -> viewDs h l = some l
 | [], _ => rfl
 | a :: r, hp => by
  simp only [AV.purL, Bool.and_eq_true] at hp
  simp only [viewDs, viewD_p hp.1, viewDs_p hp.2]
theorem K78 {X : Ctx} (hX : X.intr 78 = some (newQ sp78)) {ra fa oa ha dv : AV} {m : Hs} {g : List (List Int)} (hm : HsA m ra fa oa ha) (hg : lisV dv = some g) (hb : houseB m = true) {x : Fk} (hs : sizedB m g x = true) {f : Fl} (hf : findF x (failsH m) = some f) (h : Heap) :
  Cl X 78 [.agg [.int .i64 m.hours, ra, fa, oa, ha], .agg [dv, .int .i64 x.what, .int .i64 x.num, .int .i64 x.hour]] h (.ret (slN (rowsE (runL m f g m.hours.toNat m.rooms.length))) h none) := by
 have h1 := hm.pur
 have h2 := hm.hs
 have h3 := lis_pur hg
 obtain ⟨w, a, b⟩ := x
 refine Cl.newQ hX (l := [.agg [.int .i64 m.hours, ra, fa, oa, ha], .agg [dv, .int .i64 w, .int .i64 a, .int .i64 b]]) ?_ ?_
 ·exact viewDs_p (by simp only [AV.purL, AV.pur, sl_pur hm.r, sl_pur hm.f, sl_pur hm.o, sl_pur hm.h, h3, Bool.and_self])
 ·simp only [sp78, h2, hg, hb, hs, hf, Bool.and_self, if_true]
end Go.AM
