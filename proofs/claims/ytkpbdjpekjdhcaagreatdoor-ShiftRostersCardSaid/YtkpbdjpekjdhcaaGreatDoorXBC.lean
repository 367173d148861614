/-
  A part of the proof: contracts of functions.
-/
import Derived.Test.YtkpbdjpekjdhcaaGreatDoorXBB
set_option linter.unusedSectionVars false
set_option linter.unusedVariables false
set_option linter.unusedSimpArgs false
set_option maxRecDepth 100000
namespace Go.AM
open Go Go.Proofs
variable [Keep]
attribute [local irreducible] W WO WO1 WD WQ WT thenQ blockQ endR isRet retK Cl ClR
open Go.TX (Rm Fa Ha Hs mapO mapO_len)
attribute [local irreducible] houseB lowG highG failsH
def lowsA (m : Hs) (l : List Fl) : List AV := l.map fun f => slN (rowsE (lowG m f))
def highsA (m : Hs) (l : List Fl) : List AV := l.map fun f => slN (rowsE (highG m f))
def airE (m : Hs) : AV := .agg [slN (fksE (failsH m)), slN (lowsA m (failsH m)), slN (highsA m (failsH m))]
noncomputable def cNW : Itr
 | 72 => some (pureFn sp72)
 | 73 => some (newQ sp73)
 | 78 => some (newQ sp78)
 | _ => none
theorem cNW_sound : Sound (dX cNW) := dX_sound (fun f g h => by
 unfold cNW at h
 split at h
 ·cases h; exact F72
 ·cases h; exact F73
 ·cases h; exact F78
 ·cases h)
def sp55 : List AV -> Option AV
 | [x] => match hsV x with
  | some m => if houseB m = true then some (airE m) else none
  | none => none
 | _ => none
theorem rowsE_pur' (g : List (List Int)) : (slN (rowsE g)).pur = true := rowsE_pur g
theorem air_pur (m : Hs) : (airE m).pur = true := by
 have h1 := fksE_pur (failsH m)
 have h2 : (slN (lowsA m (failsH m))).pur = true := (slN_is _).pur fun x hx => by
  obtain ⟨f, _, rfl⟩ := List.mem_map.1 hx
  exact rowsE_pur' _
 have h3 : (slN (highsA m (failsH m))).pur = true := (slN_is _).pur fun x hx => by
  obtain ⟨f, _, rfl⟩ := List.mem_map.1 hx
  exact rowsE_pur' _
 simp only [airE, AV.pur, AV.purL, h1, h2, h3, Bool.and_self]
theorem p55 : ∀ args v, sp55 args = some v -> v.pur = true := by
 intro args v h
 unfold sp55 at h
 split at h
 ·split at h
  ·split at h
   ·cases h; exact air_pur _
   ·cases h
  ·cases h
 ·cases h
theorem end_lis {m : Hs} (ho : HOk m) (b : Bool) : lisV (slN (rowsE (endL m b m.hours.toNat m.rooms.length))) = some (endL m b m.hours.toNat m.rooms.length) := by
 have hr := ho.rooms
 have hh := ho.hours
 refine rows_lis (by rw [endL_len]; unfold maxL; omega) fun l hl => ?_
 obtain ⟨k, hk, rfl⟩ := List.getElem_of_mem hl
 have := endL_get m b m.hours.toNat (R := m.rooms.length) (r := k) (by rw [endL_len] at hk; exact hk)
 rw [List.getElem?_eq_getElem hk] at this
 rw [Option.some.inj this, List.length_replicate]
 unfold maxL; omega
theorem take_map {α β : Type} {f : α -> β} {l : List α} {k : Nat} {x : α} (h : l[k]? = some x) : (l.take (k + 1)).map f = (l.take k).map f ++ [f x] := by rw [take_next h, List.map_append]; rfl
set_option maxHeartbeats 8000000 in
theorem R55 (m : Hs) (ra fa oa ha : AV) (hm : HsA m ra fa oa ha) (hb : houseB m = true) : ClR (dX cNW) 55 [.agg [.int .i64 m.hours, ra, fa, oa, ha]] emptyHp (isRet (airE m)) := by
 have ho := house_ok hb
 have hl29 := fails_29 ho
 have o1 := sl_out hm.r
 have o2 := sl_out hm.f
 have o3 := sl_out hm.o
 have o4 := sl_out hm.h
 have k72 := fun h => K72 (X := dX cNW) rfl hm hb h
 have hsl := fks_sl (failsH m) (by unfold maxL; omega)
 have hlen := sl_len hsl
 have hout := sl_out hsl
 have f5 := (slV_is hsl).1.frz1
 have c5 := (slV_is hsl).1.cells
 have t5 := (slV_is hsl).1.tup
 rw [List.length_map] at hlen
 have h73 := fun f b h => K73 (X := dX cNW) rfl hm hb (Fl.tell f) b h
 have h78 : ∀ (f : Fl) (b : Bool), f ∈ failsH m -> ∀ h, Cl (dX cNW) 78 [.agg [.int .i64 m.hours, ra, fa, oa, ha], .agg [slN (rowsE (endL m b m.hours.toNat m.rooms.length)), .int .i64 f.tell.what, .int .i64 f.tell.num, .int .i64 f.tell.hour]] h (.ret (slN (rowsE (if b = true then highG m f else lowG m f))) h none) := fun f b hf h => by
  have := K78 (X := dX cNW) rfl hm (end_lis ho b) hb (end_sized ho b hf).1 (end_sized ho b hf).2 h
  rw [run_end rfl (Nat.le_refl _)] at this
  unfold highG lowG
  exact this
 have eo := fun b => lis_out (end_lis ho b)
 have HSL := J1 hsl
 have H73 := J1 h73
 have H78 := J1 h78
 have HL := J1 hl29
 unfold airE
 simp only [AV.cells] at c5
 simp only [isTuple] at t5
 clear hm hb ho hl29 hsl h73 h78
 generalize slN (fksE (failsH m)) = fs at *
 have eo1 := eo true
 have eo2 := eo false
 generalize hv1 : slN (rowsE (endL m true m.hours.toNat m.rooms.length)) = v1 at *
 generalize hv2 : slN (rowsE (endL m false m.hours.toNat m.rooms.length)) = v2 at *
 have HV1 := J1 hv1
 have HV2 := J1 hv2
 clear hv1 hv2 eo
 refine ClR.walk (c := _) rfl Tryz.func55 rfl (by kernel_rfl) rfl isRet_fail ?_
 try simp only [entryEnv, Nat.reduceAdd, List.nil_append, List.cons_append, emptyHp]
 repeat' (first | refine goS ?_ | (apply U6; exact Z1; exact Z1; (exact k72 _); simp only [pM, pN, rR, rP]) | (refine go2 ?_ ?_ <;> intro hh) | fail)
 refine W.loopV ((failsH m).length) [1, 2, 3] [1, 2] (fun k e lm hp => ∃ u1 u2, e.get 4 = some (.int .i64 ↑k) /\ lm.get 3 = some (0, [fs, u1, u2]) /\ BltN 0 hp u1 1 (lowsA m ((failsH m).take k)) /\ BltN 0 hp u2 1 (highsA m ((failsH m).take k)) /\ SepV u1 u2) ?_ ?_
 ·skip
  refine ⟨.nilslice, .nilslice, ?_, ?_, BltN.nil, BltN.nil, SepV.nil _⟩
  all_goals first | exact Z2 | (simp [go_sem, *]; done) | skip
 intro k e lm hp hk0 hce hcl hinv
 simp only [keepE, and_true] at hce
 obtain ⟨c1, c2, c3⟩ := hce
 simp only [go_sem, *, Nat.reduceBEq, Nat.reduceEqDiff, reduceIte] at c1 c2 c3
 simp only [keepL, and_true] at hcl
 obtain ⟨d1, d2⟩ := hcl
 simp only [go_sem, *, Nat.reduceBEq, Nat.reduceEqDiff, reduceIte] at d1 d2
 obtain ⟨u1, u2, h4, g3, hA1, hA2, hS⟩ := hinv
 by_cases hlt : k < (failsH m).length
 ·have hd0 : decide ((k : Int) < (((failsH m).length : Nat) : Int)) = true := by first | (simpa using hlt; done) | (simp only [decide_eq_true_eq]; omega)
  have hv_0 := wrap_succ hlt (by have := HL.out; unfold maxL; omega)
  obtain ⟨f, hf⟩ := get_some hlt
  have hix := fun H => fks_idx HSL.out (k := k) (p := f.tell) (by rw [List.getElem?_map, hf]; rfl) H
  have s1 : lowsA m ((failsH m).take (k + 1)) = lowsA m ((failsH m).take k) ++ [slN (rowsE (lowG m f))] := take_map hf
  have s2 : highsA m ((failsH m).take (k + 1)) = highsA m ((failsH m).take k) ++ [slN (rowsE (highG m f))] := take_map hf
  have hmem := List.mem_of_getElem? hf
  have k73 := fun h => H73.out f false h
  have k78 := fun h => H78.out f false hmem h
  have k78t := fun h => H78.out f true hmem h
  simp only [Bool.false_eq_true, if_false, if_true] at k78 k78t
  rw [HV2.out] at k73 k78
  rw [HV1.out] at k78t
  have hli1 := (slN_is (rowsE (lowG m f)))
  have hli2 := (slN_is (rowsE (highG m f)))
  have w1 := hli1.out
  have w2 := hli1.cells
  have w3 := hli1.tup
  have y1 := hli2.out
  have y2 := hli2.cells
  have y3 := hli2.tup
  clear hli1 hli2 hf hmem
  generalize slN (rowsE (lowG m f)) = gl at *
  generalize slN (rowsE (highG m f)) = gh at *
  have hsc : gl.cells.length = 1 := by rw [w2]; rfl
  have hsc2 : gh.cells.length = 1 := by rw [y2]; rfl
  obtain ⟨q1, q2, q3⟩ := hA1.parts
  obtain ⟨q4, q5, q6⟩ := hA2.parts
  simp only [AV.cells] at q2 q5 w2 y2
  simp only [isTuple] at q3 q6 w3 y3
  have hll : (lowsA m ((failsH m).take k)).length + 1 <= most := by
   unfold lowsA; rw [List.length_map, List.length_take]; have := HL.out; unfold most; omega
  have hll2 : (highsA m ((failsH m).take k)).length + 1 <= most := by
   unfold highsA; rw [List.length_map, List.length_take]; have := HL.out; unfold most; omega
  have HLL2 := J1 hll2
  have HS1 := J1 s1
  have HS2 := J1 s2
  have HA2 := J1 hA2
  have HS := J1 hS
  have HLT0 := J1 hlt
  have HSC2 := J1 hsc2
  have hA := hA1
  simp only [fkC] at k73
  clear hA1 hA2 hS hlt s1 s2 hll2 hsc2
  repeat' (first | (apply W.drawQ (id := 5) (l1 := [0, 1, 2, 3, 4, 5, 6, 7, 8, 9, 10, 11]) (l2 := [12, 13, 14]); kernel_rfl; kernel_rfl; kernel_rfl; exact Z4) | (apply WO1.appendX (t := 89) (u := 89) (e := 36) (e' := 36) (sz := 1) (tl := []) (b := 0) (h0 := ⟨0, .nil⟩) (hb := hA) (hx := ⟨Nat.zero_le _, fun id h => absurd h (Nat.not_lt_zero id)⟩); exact Z1; exact rfl; exact Z2; exact Z2; exact Z2; (focus (exact ty_row89)); exact Z1; (focus (intro v hv; simp at hv; subst hv; first | rfl | exact hsc)); (focus (simp only [List.length_map, List.length_cons, List.length_nil]; exact hll)); (focus (simp)); (intro v' h' hB' ho' hK' hE' hX'; have hcc' := hB'.blt.cells; have htt' := hB'.blt.tup; simp only [AV.cells] at hcc'; simp only [isTuple] at htt'; simp only [pM, pN])) | refine go1 ?_ | (apply U6; exact Z1; exact Z1; (focus (first | exact k73 _ | exact k78 _)); simp only [pM, pN, rR, rP]) | (refine go2 ?_ ?_ <;> intro hh) | fail)
  have hsv : SepV u2 v' := by rw [hE']; exact SepV.new HA2.out
  have hA2' := HA2.out.apart hK' HS.out.symm
  have hV := hB'
  have HV := J1 hV
  have HSV := J1 hsv
  have HE3 := J1 hE'
  have hll := HLL2.out
  have hsc := HSC2.out
  have k73 := fun h => H73.out f true h
  have k78 := k78t
  rw [HV1.out] at k73
  simp only [fkC] at k73
  have hA := hA2'
  clear k78t hsv hV hB' hK' hE' hX' hA2'
  generalize h' = z3 at *
  generalize v' = v3 at *
  have hcc3 := hcc'
  have htt3 := htt'
  have hou3 := ho'
  clear hcc' htt' ho'
  repeat' (first | (apply W.drawQ (id := 6) (l1 := [0, 1, 2, 3, 4, 5, 6, 7, 8, 9, 10, 11]) (l2 := [12, 13, 14]); kernel_rfl; kernel_rfl; kernel_rfl; exact Z4) | (apply WO1.appendX (t := 89) (u := 89) (e := 36) (e' := 36) (sz := 1) (tl := []) (b := 0) (h0 := ⟨0, .nil⟩) (hb := hA) (hx := ⟨Nat.zero_le _, fun id h => absurd h (Nat.not_lt_zero id)⟩); exact Z1; exact rfl; exact Z2; exact Z2; exact Z2; (focus (exact ty_row89)); exact Z1; (focus (intro v hv; simp at hv; subst hv; first | rfl | exact hsc)); (focus (simp only [List.length_map, List.length_cons, List.length_nil]; exact hll)); (focus (simp)); (intro v' h' hB' ho' hK' hE' hX'; have hcc' := hB'.blt.cells; have htt' := hB'.blt.tup; simp only [AV.cells] at hcc'; simp only [isTuple] at htt'; simp only [pM, pN])) | refine go1 ?_ | (apply U6; exact Z1; exact Z1; (focus (first | exact k73 _ | exact k78 _)); simp only [pM, pN, rR, rP]) | (refine go2 ?_ ?_ <;> intro hh) | fail)
  all_goals refine contV_mk J9 J7 J8 ?_
  all_goals refine ⟨v3, v', ?_, ?_, ?_, ?_, ?_⟩
  all_goals first | exact Z2 | skip
  ·simp [HE3.out, hE']
  ·rw [HS1.out]
   exact HV.out.apart hK' HSV.out.symm
  ·rw [HS2.out]
   exact hB'
  ·rw [hE']
   exact SepV.new HV.out
 ·have hd0 : decide ((k : Int) < (((failsH m).length : Nat) : Int)) = false := by first | (simpa using hlt; done) | (simp only [decide_eq_false_iff_not]; omega)
  obtain rfl : k = (failsH m).length := by omega
  rw [List.take_length] at hA1 hA2
  obtain ⟨q1, q2, q3⟩ := hA1.parts
  obtain ⟨q4, q5, q6⟩ := hA2.parts
  simp only [AV.cells] at q2 q5
  simp only [isTuple] at q3 q6
  obtain ⟨z1, y1, y2, y3, e1, p1⟩ := hA1.freeze
  have hA2' := hA2.afterFrz y3 e1 p1 hS.symm
  obtain ⟨z2, y4, y5, y6, e2, p2⟩ := hA2'.freeze
  clear hA1 hA2 hA2' p1 p2 hS e1 e2
  repeat' (first | refine goS ?_ | (refine go2 ?_ ?_ <;> intro hh) | fail)
  all_goals (simp only [resV_def (X := dX cNW) Tryz.func55, Tryz.results55]; first | exact J5 | refine J6 ?_)
  all_goals rfl
theorem F55 : IntrFn Tryz.prog 55 (pureFn sp55) := by
 refine pure_fn (X := dX cNW) cNW_sound p55 ?_
 intro args v h
 unfold sp55 at h
 split at h
 ·split at h
  ·rename_i m hm
   split at h
   ·rename_i hb
    have h := Option.some.inj h
    subst h
    obtain ⟨ra, fa, oa, ha, rfl, hA⟩ := hs_parts' hm
    exact R55 m ra fa oa ha hA hb
   ·cases h
  ·cases h
 ·cases h
theorem K55 {X : Ctx} (hX : X.intr 55 = some (pureFn sp55)) {m : Hs} {ra fa oa ha : AV} (hm : HsA m ra fa oa ha) (hb : houseB m = true) (h : Heap) : Cl X 55 [.agg [.int .i64 m.hours, ra, fa, oa, ha]] h (.ret (airE m) h none) :=
 Cl.intr hX (by have := hm.pur; simp only [pureFn, AV.purL, this, Bool.and_self, if_true, sp55, hm.hs, hb])
theorem low_lis {m : Hs} (ho : HOk m) (f : Fl) : lisV (slN (rowsE (lowG m f))) = some (lowG m f) := by
 have hr := ho.rooms
 have hh := ho.hours
 have q := low_ok ho f
 exact rows_lis (by rw [q.len]; unfold maxL; omega) fun l hl => by rw [q.row l hl]; unfold maxL; omega
theorem high_lis {m : Hs} (ho : HOk m) (f : Fl) : lisV (slN (rowsE (highG m f))) = some (highG m f) := by
 have hr := ho.rooms
 have hh := ho.hours
 have q := high_ok ho f
 exact rows_lis (by rw [q.len]; unfold maxL; omega) fun l hl => by rw [q.row l hl]; unfold maxL; omega
def airGo (m : Hs) (p : List Int) (k : Nat) (s : Int × Int) : Prop := (((lowsV m p).drop k).foldl minV s.1, ((highsV m p).drop k).foldl maxV s.2) = airS m p
theorem grids_idx {es : List AV} {k : Nat} {g : List (List Int)} (h : es[k]? = some (slN (rowsE g))) (H : Heap) : indexAddrV Tryz.prog H 89 (slN es) (.int .i64 ↑k) = some (.vptr [slN (rowsE g)]) := by
 have hc := (slN_is (rowsE g)).cells
 have := (slN_is es).idx (P := Tryz.prog) (hp := H) (x := slN (rowsE g)) (m := 1) Tryz.underlying89 ty_lay36 h (by rw [hc]; rfl)
 rw [hc] at this
 exact this
section
variable {c : Itr}
set_option maxHeartbeats 8000000 in
theorem C63 (h63 : c 63 = none) (h71 : c 71 = none) (m : Hs) (ho : HOk m) (pa : AV) (p : List Int) (h : Heap) (hp : pthV h pa = some p) (hb : pathB m p = true) :
  Cl (dX c) 63 [airE m, pa] h (.ret (.agg [.int .i64 (airS m p).1, .int .i64 (airS m p).2]) h none) := by
 refine ClR.cl ?_
 obtain ⟨_, opa, _, _, _⟩ := pth_parts hp
 have hl29 := fails_29 ho
 have hl1 := fails_1 m
 have hsl := fks_sl (failsH m) (by unfold maxL; omega)
 have hlen := sl_len hsl
 have o1 := sl_out hsl
 rw [List.length_map] at hlen
 have o2 := (slN_is (lowsA m (failsH m))).out
 have o3 := (slN_is (highsA m (failsH m))).out
 have hix1 : ∀ (k : Nat) (f : Fl), (failsH m)[k]? = some f -> ∀ H, indexAddrV Tryz.prog H 89 (slN (lowsA m (failsH m))) (.int .i64 ↑k) = some (.vptr [slN (rowsE (lowG m f))]) := fun k f hf H => grids_idx (by unfold lowsA; rw [List.getElem?_map, hf]; rfl) H
 have hix2 : ∀ (k : Nat) (f : Fl), (failsH m)[k]? = some f -> ∀ H, indexAddrV Tryz.prog H 89 (slN (highsA m (failsH m))) (.int .i64 ↑k) = some (.vptr [slN (rowsE (highG m f))]) := fun k f hf H => grids_idx (by unfold highsA; rw [List.getElem?_map, hf]; rfl) H
 have hk1 := fun f => C71 (c := c) h71 pa _ p _ h hp (low_lis ho f) _ (brV_is ho hb (low_ok ho f)).1
 have hk2 := fun f => C71 (c := c) h71 pa _ p _ h hp (high_lis ho f) _ (brV_is ho hb (high_ok ho f)).1
 obtain ⟨f0, hf0⟩ := get_some (l := failsH m) (k := 0) (by omega)
 have j1 : ∀ H, indexAddrV Tryz.prog H 89 (slN (lowsA m (failsH m))) (.int .i64 0) = some (.vptr [slN (rowsE (lowG m f0))]) := hix1 0 f0 hf0
 have j2 : ∀ H, indexAddrV Tryz.prog H 89 (slN (highsA m (failsH m))) (.int .i64 0) = some (.vptr [slN (rowsE (highG m f0))]) := hix2 0 f0 hf0
 have k71l := hk1 f0
 have k71h := hk2 f0
 have w1 := (slN_is (rowsE (lowG m f0))).out
 have w2 := (slN_is (rowsE (highG m f0))).out
 have hs1 : ∀ k f, (failsH m)[k]? = some f -> (lowsV m p)[k]? = some (brV (lowG m f) p) /\ (highsV m p)[k]? = some (brV (highG m f) p) := fun k f hf => ⟨by unfold lowsV; rw [List.getElem?_map, hf]; rfl, by unfold highsV; rw [List.getElem?_map, hf]; rfl⟩
 have hS : airS m p = (((lowsV m p).drop 1).foldl minV (brV (lowG m f0) p), ((highsV m p).drop 1).foldl maxV (brV (highG m f0) p)) := by
  obtain ⟨e1, e2⟩ := hs1 0 f0 hf0
  unfold airS
  generalize lowsV m p = a at *
  generalize highsV m p = b at *
  cases a with
  | nil => cases e1
  | cons x a =>
   cases b with
   | nil => cases e2
   | cons y b =>
    simp only [List.getElem?_cons_zero, Option.some.injEq] at e1 e2
    subst e1
    subst e2
    rfl
 have hmn : ∀ a b : Int, foldV minV .i64 a [.int .i64 b] = some (.int .i64 (minV a b)) := fun _ _ => rfl
 have hmx : ∀ a b : Int, foldV maxV .i64 a [.int .i64 b] = some (.int .i64 (maxV a b)) := fun _ _ => rfl
 have HS := J1 hS
 have HIX1 := J1 hix1
 have HIX2 := J1 hix2
 have HK1 := J1 hk1
 have HK2 := J1 hk2
 have HS1 := J1 hs1
 have HL := J1 hl29
 have HL1 := J1 hl1
 have hlv : (lowsV m p).length = (failsH m).length /\ (highsV m p).length = (failsH m).length := by unfold lowsV highsV; simp
 have HLV := J1 hlv
 unfold airE
 clear ho hp hb hl29 hl1 hsl hix1 hix2 hk1 hk2 hf0 hs1 hS hlv
 generalize slN (fksE (failsH m)) = fs at *
 generalize slN (lowsA m (failsH m)) = la at *
 generalize slN (highsA m (failsH m)) = ha at *
 generalize slN (rowsE (lowG m f0)) = l0 at *
 generalize slN (rowsE (highG m f0)) = h0 at *
 generalize hx0 : brV (lowG m f0) p = x0 at *
 generalize hy0 : brV (highG m f0) p = y0 at *
 clear hx0 hy0
 refine ClR.walk (c := _) h63 Tryz.func63 rfl (by kernel_rfl) rfl (fun e => by cases e) ?_
 try simp only [entryEnv, Nat.reduceAdd, List.nil_append, List.cons_append, emptyHp]
 repeat' (first | (apply Z7 (o := ⟨some 5, .alloc 56, 0, _, _, none⟩); exact rfl; exact rfl; exact Z1; simp only [pM, pN]) | (apply W.drawQ (id := 1) (l1 := [13, 0, 1, 2, 3, 4, 5, 6, 7, 8, 9, 10, 11, 12]) (l2 := [14]); kernel_rfl; kernel_rfl; kernel_rfl; exact Z4) | (apply W.drawQ (id := 5) (l1 := [0, 1, 2, 3, 4, 5, 6, 7, 8, 9, 10, 11, 12, 13, 14, 15, 16, 17, 18, 19, 20]) (l2 := [21]); kernel_rfl; kernel_rfl; kernel_rfl; exact Z4) | refine go1 ?_ | (apply U6; exact Z1; exact Z1; (focus (first | exact k71l | exact k71h)); simp only [pM, pN, rR, rP]) | (refine go2 ?_ ?_ <;> intro hh) | fail)
 refine W.loopH ((failsH m).length - 1) [1, 2, 4, 5] [2, 4] (fun k e lm => ∃ s, e.get 6 = some (.int .i64 ((k + 1 : Nat) : Int)) /\ lm.get 5 = some (0, [.int .i64 s.1, .int .i64 s.2]) /\ airGo m p (k + 1) s) ?_ ?_
 ·skip
  refine ⟨(x0, y0), ?_, ?_, HS.out.symm⟩
  all_goals first | exact Z2 | (simp [go_sem, *]; done) | skip
 intro k e lm hk0 hce hcl hinv
 simp only [keepE, and_true] at hce
 obtain ⟨c1, c2, c4, c5⟩ := hce
 simp only [go_sem, *, Nat.reduceBEq, Nat.reduceEqDiff, reduceIte] at c1 c2 c4 c5
 simp only [keepL, and_true] at hcl
 obtain ⟨d2, d4⟩ := hcl
 simp only [go_sem, *, Nat.reduceBEq, Nat.reduceEqDiff, reduceIte] at d2 d4
 obtain ⟨s, h6, g5, hs⟩ := hinv
 by_cases hlt : k < (failsH m).length - 1
 ·have hd0 : decide ((k : Int) < (((failsH m).length - 1 : Nat) : Int)) = true := by first | (simpa using hlt; done) | (simp only [decide_eq_true_eq]; omega)
  have hv_0 := wrap_succ hlt (by have := HL.out; unfold maxL; omega)
  obtain ⟨f, hf⟩ := get_some (l := failsH m) (k := k + 1) (by omega)
  have j1 := HIX1.out (k + 1) f hf
  have j2 := HIX2.out (k + 1) f hf
  have k71l := HK1.out f
  have k71h := HK2.out f
  have w1 := (slN_is (rowsE (lowG m f))).out
  have w2 := (slN_is (rowsE (highG m f))).out
  obtain ⟨e1, e2⟩ := HS1.out (k + 1) f hf
  have hdd : decide (((k + 1 : Nat) : Int) < ((failsH m).length : Int)) = true := by simp only [decide_eq_true_eq]; omega
  have hvv : IntKind.i64.wrap (((k + 1 : Nat) : Int) + 1) = ((k + 1 + 1 : Nat) : Int) := wrap_succ (k := k + 1) (m := 1000) (by have := HL.out; omega) (by unfold maxL; omega)
  obtain ⟨a1, a2⟩ := List.getElem?_eq_some_iff.1 e1
  obtain ⟨b1, b2⟩ := List.getElem?_eq_some_iff.1 e2
  unfold airGo at hs
  rw [List.drop_eq_getElem_cons a1, a2, List.drop_eq_getElem_cons b1, b2, List.foldl_cons, List.foldl_cons] at hs
  obtain ⟨s1, s2⟩ := s
  simp only at hs
  have HSN := J1 hs
  have HLT0 := J1 hlt
  clear hf hlt hs e1 e2 a1 a2 b1 b2
  generalize slN (rowsE (lowG m f)) = gl at *
  generalize slN (rowsE (highG m f)) = gh at *
  generalize brV (lowG m f) p = x at *
  generalize brV (highG m f) p = y at *
  repeat' (first | (apply Z7 (o := ⟨some 5, .alloc 56, 0, _, _, none⟩); exact rfl; exact rfl; exact Z1; simp only [pM, pN]) | (apply W.drawQ (id := 1) (l1 := [13, 0, 1, 2, 3, 4, 5, 6, 7, 8, 9, 10, 11, 12]) (l2 := [14]); kernel_rfl; kernel_rfl; kernel_rfl; exact Z4) | (apply W.drawQ (id := 5) (l1 := [0, 1, 2, 3, 4, 5, 6, 7, 8, 9, 10, 11, 12, 13, 14, 15, 16, 17, 18, 19, 20]) (l2 := [21]); kernel_rfl; kernel_rfl; kernel_rfl; exact Z4) | refine go1 ?_ | (apply U6; exact Z1; exact Z1; (focus (first | exact k71l | exact k71h)); simp only [pM, pN, rR, rP]) | (refine go2 ?_ ?_ <;> intro hh) | fail)
  all_goals refine contH_mk J9 J7 J8 ?_
  all_goals refine ⟨(minV s1 x, maxV s2 y), ?_, ?_, HSN.out⟩
  all_goals first | exact Z2 | skip
 ·have hd0 : decide ((k : Int) < (((failsH m).length - 1 : Nat) : Int)) = false := by first | (simpa using hlt; done) | (simp only [decide_eq_false_iff_not]; omega)
  obtain rfl : k = (failsH m).length - 1 := by omega
  have hdd : decide ((((failsH m).length - 1 + 1 : Nat) : Int) < ((failsH m).length : Int)) = false := by have := HL1.out; simp only [decide_eq_false_iff_not]; omega
  have d1 : (lowsV m p).drop ((failsH m).length - 1 + 1) = [] := List.drop_of_length_le (by rw [HLV.out.1]; omega)
  have d2 : (highsV m p).drop ((failsH m).length - 1 + 1) = [] := List.drop_of_length_le (by rw [HLV.out.2]; omega)
  unfold airGo at hs
  rw [d1, d2] at hs
  simp only [List.foldl_nil] at hs
  rw [<- hs]
  clear d1 d2 hs HS
  repeat' (first | refine goS ?_ | (refine go2 ?_ ?_ <;> intro hh) | fail)
  all_goals (simp only [resV_def (X := dX c) Tryz.func63, Tryz.results63]; first | exact J5 | refine J6 ?_)
  all_goals rfl
end
end Go.AM
