/-
  A part of the proof: contracts of functions.
-/
import Derived.Test.YtkpbdjpekjdhcaaGreatDoorTBK
import Derived.Test.YtkpbdjpekjdhcaaGreatDoorTAO
set_option linter.unusedSectionVars false
set_option linter.unusedVariables false
set_option linter.unusedSimpArgs false
set_option maxRecDepth 100000
namespace Go.AM
open Go Go.Proofs
variable [Keep]
attribute [local irreducible] W WO WO1 WD WQ WT thenQ blockQ endR isRet retK Cl ClR
open Go.TX (Rm Fa Ha Hs mapO mapO_len)
attribute [local irreducible] roundQ RdR houseB airS failsH hasB allP pathB mostP ordP
def ordV (m : Hs) (d : List Int) (w : Bool) : AV := if (houseB m && dutyP m d) = true then .tuple (ordE m (ordP m d w) ++ [.int .i64 0]) else .tuple [.nilslice, .int .i64 0, .int .i64 2]
noncomputable def cRL : Itr
 | 82 => some (flatFnD sp82)
 | 136 => some (pureFn sp136)
 | 137 => some (pureFn sp137)
 | 140 => some go140
 | 144 => some (flatFnD sp144)
 | 162 => some (pureFn sp162)
 | 102 => some (pureFn sp102)
 | _ => none
theorem cRL_sound : Sound (dX cRL) := dX_sound (fun f g h => by
 unfold cRL at h
 split at h
 ·cases h; exact F82D
 ·cases h; exact F136
 ·cases h; exact F137
 ·cases h; exact F140
 ·cases h; exact F144D
 ·cases h; exact F162
 ·cases h; exact F102
 ·cases h)
theorem hdRL : CxD cRL := ⟨rfl, rfl, rfl, rfl, rfl⟩
def ordR (m : Hs) (d : List Int) (w : Bool) (r : COut) : Prop := ∃ v v' n e h', r = .ret (.tuple [v, .int .i64 n, .int .i64 e]) h' none ∧ ordV m d w = .tuple [v', .int .i64 n, .int .i64 e] ∧ Frz h' v v' ∧ outV (some v) = some v ∧ v.cells = [v] ∧ isTuple v = false
theorem ordR_fail {m : Hs} {d : List Int} {w : Bool} : ¬ ordR m d w .fail := by rintro ⟨_, _, _, _, _, e, _⟩; cases e
theorem ints_frz {h' : Heap} {v : AV} {p : List Int} (b : Blt h' v 1 (intsE p)) : Frz h' v (slN (intsE p)) := by
 refine b.frz (fun e he => ?_) (fun e he x hx => ?_)
 ·obtain ⟨k, _, rfl⟩ := List.mem_map.1 he
  rfl
 ·obtain ⟨k, _, rfl⟩ := List.mem_map.1 he
  rcases List.mem_singleton.1 hx with rfl
  exact ⟨rfl, rfl⟩
set_option maxHeartbeats 16000000 in
theorem C118 (m : Hs) (ra fa oa ha da : AV) (d : List Int) (w : Bool) (hm : HsA m ra fa oa ha) (hd : slV intC da = some d) : ClR (dX cRL) 118 [.agg [.int .i64 m.hours, ra, fa, oa, ha], da, .func (.func (btF w)) [] []] emptyHp (ordR m d w) := by
 have o1 := sl_out hm.r
 have o2 := sl_out hm.f
 have o3 := sl_out hm.o
 have o4 := sl_out hm.h
 have od := sl_out hd
 have cda := (slV_is hd).1.cells
 have tda := (slV_is hd).1.tup
 have k82 := fun h => K82p (X := dX cRL) rfl hm h
 have k162 := fun h => K162 (X := dX cRL) rfl hm hd h
 cases hb : houseB m with
 | false =>
  rw [hb] at k82
  have hV : ordV m d w = .tuple [.nilslice, .int .i64 0, .int .i64 2] := by unfold ordV; rw [hb]; rfl
  have HV := Lib.hid hV
  simp only [AV.cells] at cda
  simp only [isTuple] at tda
  clear hm hd hb hV
  refine ClR.walk (c := _) rfl Tryz.func118 rfl (by kernel_rfl) rfl ordR_fail ?_
  try simp only [entryEnv, Nat.reduceAdd, List.nil_append, List.cons_append, emptyHp]
  repeat' (first | refine goS ?_ | (apply U6; exact Z1; exact Z1; (focus (simp only [List.nil_append, List.append_nil]; first | exact k82 _)); simp only [pM, pN, rR, rP]) | refine go2 (fun hh => ?_) (fun hh => ?_) | fail)
  all_goals (simp only [resV_def (X := dX cRL) Tryz.func118, Tryz.results118]; first | exact J5 | refine J6 ?_)
  exact ⟨_, _, _, _, _, rfl, HV.out, .flat rfl, rfl, rfl, rfl⟩
 | true =>
  rw [hb] at k82
  cases hq : dutyP m d with
  | false =>
   rw [hq] at k162
   have hV : ordV m d w = .tuple [.nilslice, .int .i64 0, .int .i64 2] := by unfold ordV; rw [hb, hq]; rfl
   have HV := Lib.hid hV
   simp only [AV.cells] at cda
   simp only [isTuple] at tda
   clear hm hd hb hq hV
   refine ClR.walk (c := _) rfl Tryz.func118 rfl (by kernel_rfl) rfl ordR_fail ?_
   try simp only [entryEnv, Nat.reduceAdd, List.nil_append, List.cons_append, emptyHp]
   repeat' (first | refine goS ?_ | (apply U6; exact Z1; exact Z1; (focus (simp only [List.nil_append, List.append_nil]; first | exact k82 _ | exact k162 _)); simp only [pM, pN, rR, rP]) | refine go2 (fun hh => ?_) (fun hh => ?_) | fail)
   all_goals (simp only [resV_def (X := dX cRL) Tryz.func118, Tryz.results118]; first | exact J5 | refine J6 ?_)
   exact ⟨_, _, _, _, _, rfl, HV.out, .flat rfl, rfl, rfl, rfl⟩
  | true =>
   rw [hq] at k162
   have ho := house_ok hb
   have hdo := duty_ok ho hq
   have hdy := C83 hdRL m ra fa oa ha hm ho 1 ((Mp.nil : Mp Blk).set 0 (.var [.func (.func (btF w)) [] []]))
   unfold ClR dayR at hdy
   obtain ⟨_, hcl, ⟨dn, dm⟩, a, mid, l, rfl, hx, hsl, hg, hl, hmid⟩ := hdy
   have oa5 := sl_out hsl
   have k165 := C165 (c := cRL) rfl m.hours ra fa oa ha da o1 o2 o3 o4 od cda tda
   have g0 : dm.get 0 = some (.var [.func (.func (btF w)) [] []]) := by
    have := hx.2 0 (by simp only; omega)
    simp only [hp_get] at this
    rw [this]
    simp
   have hdn : 1 ≤ dn := hx.1
   have hmd : mid < dn := hmid
   obtain ⟨mm, hmm⟩ : ∃ mm, mm = (((((dm.set dn (.var [.int .i64 0, .nilslice, .nilslice, .nilslice, .nilslice, .nilslice, .nilmap])).set dn (.var [.int .i64 m.hours, ra, fa, oa, ha, a, .map mid])).set (dn + 1) (.var [.nilfunc])).set (dn + 1) (.var [.func (.func 163) [] [.ptr dn 0]])).set (dn + 1 + 1) (.var [.int .i64 m.hours, ra, fa, oa, ha])).set (dn + 1 + 1 + 1) (.var [da]) := ⟨_, rfl⟩
   have m0 : mm.get 0 = some (.var [.func (.func (btF w)) [] []]) := by
    rw [hmm]
    repeat rw [Mp.get_set, if_neg (by omega)]
    exact g0
   have mD : mm.get dn = some (.var [.int .i64 m.hours, ra, fa, oa, ha, a, .map mid]) := by
    rw [hmm]
    repeat (first | rw [get_set_same] | rw [Mp.get_set, if_neg (by omega)])
   have m1 : mm.get (dn + 1) = some (.var [.func (.func 163) [] [.ptr dn 0]]) := by
    rw [hmm]
    repeat (first | rw [get_set_same] | rw [Mp.get_set, if_neg (by omega)])
   have m2 : mm.get (dn + 1 + 1) = some (.var [.int .i64 m.hours, ra, fa, oa, ha]) := by
    rw [hmm]
    repeat (first | rw [get_set_same] | rw [Mp.get_set, if_neg (by omega)])
   have m3 : mm.get (dn + 1 + 1 + 1) = some (.var [da]) := by
    rw [hmm]
    repeat (first | rw [get_set_same] | rw [Mp.get_set, if_neg (by omega)])
   have mM : mm.get mid = some (.mp (entE m l)) := by
    rw [hmm]
    repeat rw [Mp.get_set, if_neg (by omega)]
    exact hg
   have hb1 := C164 (c := cRL) rfl rfl rfl rfl rfl rfl rfl rfl rfl rfl rfl rfl rfl m ho w ra fa oa ha a da d hm hd hdo.len mid 0 dn (dn + 1) (dn + 1 + 1) (dn + 1 + 1 + 1) (dn + 1 + 1 + 1 + 1) mm
    ⟨mD, hsl, l, mM, hl⟩ m0 m1 m2 m3 (by omega) (by omega) (by omega) (by omega) (by omega) (by omega)
   unfold ClR bestR at hb1
   obtain ⟨_, hb164, vv, h', rfl, hBO, hX2⟩ := hb1
   have hDay : DayOk m ra fa oa ha a mid dn h' := ⟨(hX2.2 dn (by simp only; omega)).trans mD, hsl, l, (hX2.2 mid (by simp only; omega)).trans mM, hl⟩
   have g10 := (hX2.2 (dn + 1) (by simp only; omega)).trans m1
   obtain ⟨ov, cv, tv⟩ := hBO.parts
   rw [hmm] at hb164
   obtain ⟨b1, b2, b3, b4, b5, b6, b7, b8⟩ := offs dn
   obtain ⟨e1, e2, e3, e4, e5, e6, e7, e8⟩ := offs (dn + 1)
   have nb1 : (dn == 0) = false := by simp only [beq_eq_false_iff_ne, ne_eq]; omega
   have nb2 : (dn + 1 == 0) = false := by simp only [beq_eq_false_iff_ne, ne_eq]; omega
   rcases hBO with ⟨hor, rfl⟩ | ⟨p, hor, hbv, hp1, hp2⟩
   ·have hm163 := C163 (c := cRL) rfl hDay o1 o2 o3 o4 (pa := .nilslice) rfl rfl rfl 0 (K140n (X := dX cRL) rfl ho hDay)
    have hV : ordV m d w = .tuple [.nilslice, .int .i64 0, .int .i64 0] := by unfold ordV; rw [hb, hq, hor]; rfl
    have HV := Lib.hid hV
    simp only [AV.cells] at cda
    simp only [isTuple] at tda
    obtain ⟨zn, zm⟩ := h'
    simp only [hp_get] at g10
    clear hm hd hb hq ho hdo hx hsl hg hl hmid g0 hdn hmd hmm m0 mD m1 m2 m3 mM hX2 hDay hor hV
    refine ClR.walk (c := _) rfl Tryz.func118 rfl (by kernel_rfl) rfl ordR_fail ?_
    try simp only [entryEnv, Nat.reduceAdd, List.nil_append, List.cons_append, emptyHp]
    repeat' (first | (apply U6; exact Z1; exact Z1; (focus (exact hb164)); simp only [pM, pN, rR, rP]) | (apply U6; exact Z1; exact Z1; (focus (exact hm163)); simp only [pM, pN, rR, rP]) | refine go1 ?_ | (apply U6; exact Z1; exact Z1; (focus (simp only [List.nil_append, List.append_nil]; first | exact k82 _ | exact k162 _ | exact hcl | exact k165 _ _)); simp only [pM, pN, rR, rP]) | refine go2 (fun hh => ?_) (fun hh => ?_) | fail)
    all_goals (simp only [resV_def (X := dX cRL) Tryz.func118, Tryz.results118]; first | exact J5 | refine J6 ?_)
    exact ⟨_, _, _, _, _, rfl, HV.out, .flat rfl, rfl, rfl, rfl⟩
   ·have hm163 := C163 (c := cRL) rfl hDay o1 o2 o3 o4 (pa := vv) ov cv tv (mostP m p) (K140d (X := dX cRL) rfl ho hDay (pth_blt hbv (by unfold maxL; omega)) hp1)
    have hV : ordV m d w = .tuple [slN (intsE p), .int .i64 (mostP m p), .int .i64 0] := by unfold ordV; rw [hb, hq, hor]; rfl
    have hE : Frz h' vv (slN (intsE p)) ∧ outV (some vv) = some vv ∧ vv.cells = [vv] ∧ isTuple vv = false := ⟨ints_frz hbv, ov, cv, tv⟩
    have HV := Lib.hid hV
    have HE := Lib.hid hE
    simp only [AV.cells] at cda cv
    simp only [isTuple] at tda tv
    obtain ⟨zn, zm⟩ := h'
    simp only [hp_get] at g10
    clear hm hd hb hq ho hdo hx hsl hg hl hmid g0 hdn hmd hmm m0 mD m1 m2 m3 mM hX2 hDay hor hV hbv hE
    generalize mostP m p = mo at *
    refine ClR.walk (c := _) rfl Tryz.func118 rfl (by kernel_rfl) rfl ordR_fail ?_
    try simp only [entryEnv, Nat.reduceAdd, List.nil_append, List.cons_append, emptyHp]
    repeat' (first | (apply U6; exact Z1; exact Z1; (focus (exact hb164)); simp only [pM, pN, rR, rP]) | (apply U6; exact Z1; exact Z1; (focus (exact hm163)); simp only [pM, pN, rR, rP]) | refine go1 ?_ | (apply U6; exact Z1; exact Z1; (focus (simp only [List.nil_append, List.append_nil]; first | exact k82 _ | exact k162 _ | exact hcl | exact k165 _ _)); simp only [pM, pN, rR, rP]) | refine go2 (fun hh => ?_) (fun hh => ?_) | fail)
    all_goals (simp only [resV_def (X := dX cRL) Tryz.func118, Tryz.results118]; first | exact J5 | refine J6 ?_)
    exact ⟨_, _, _, _, _, rfl, HV.out, HE.out.1, HE.out.2.1, HE.out.2.2.1, HE.out.2.2.2⟩
theorem SeeV.vD {α : Type} {h : Heap} {c : Cd α} {a : AV} {l : List α} (s : SeeV h c a l) : ∃ a', viewD h a = some a' ∧ slV c a' = some l := by
  obtain ⟨a', e1, e2⟩ := s
  cases a <;> first
    | exact ⟨a', e1, e2⟩
    | (unfold viewV at e1
       simp only at e1
       split at e1
       · cases e1; simp [slV] at e2
       · cases e1)
def sp45 : List AV → Option AV
 | [x, da] => match hsV x, slV intC da with
  | some m, some d => some (ordV m d true)
  | _, _ => none
 | _ => none
def sp46 : List AV → Option AV
 | [x, da] => match hsV x, slV intC da with
  | some m, some d => some (ordV m d false)
  | _, _ => none
 | _ => none
set_option maxHeartbeats 4000000 in
theorem F45 : IntrFn Tryz.prog 45 (newQ sp45) := newQ_fn (X := dX cRL) cRL_sound fun args v h => by
 unfold sp45 at h
 split at h
 ·rename_i xx da
  split at h
  ·rename_i m d hm hd
   have h := Option.some.inj h
   subst h
   obtain ⟨ra, fa, oa, ha, rfl, hA⟩ := hs_parts' hm
   have o1 := sl_out hA.r
   have o2 := sl_out hA.f
   have o3 := sl_out hA.o
   have o4 := sl_out hA.h
   have od := sl_out hd
   have h1 := C118 m ra fa oa ha da d true hA hd
   unfold ClR at h1
   obtain ⟨_, hcl118, pv, pv', n, e, ⟨zn, zm⟩, rfl, hv, hfr, ov, cv, tv⟩ := h1
   rw [hv]
   have HFR := Lib.hid hfr
   simp only [btF, Bool.false_eq_true, if_true, if_false, emptyHp] at hcl118
   simp only [AV.cells] at cv
   simp only [isTuple] at tv
   clear hm hd hA hv hfr
   refine ClR.walk (c := _) rfl Tryz.func45 rfl (by kernel_rfl) rfl isQ_fail ?_
   try simp only [entryEnv, Nat.reduceAdd, List.nil_append, List.cons_append, emptyHp]
   repeat' (first | refine goS ?_ | (apply U6; exact Z1; exact Z1; (focus (simp only [List.nil_append, List.append_nil]; first | exact hcl118)); simp only [pM, pN, rR, rP]) | refine go2 (fun hh => ?_) (fun hh => ?_) | fail)
   all_goals (simp only [resV_def (X := dX cRL) Tryz.func45, Tryz.results45]; first | exact J5 | refine J6 ?_)
   refine isQ_ret (.tuple rfl (fun i hi => ?_))
   have : i = 0 ∨ i = 1 ∨ i = 2 := by simp only [List.length_cons, List.length_nil] at hi; omega
   rcases this with rfl | rfl | rfl
   ·exact HFR.out
   ·exact .flat rfl
   ·exact .flat rfl
  ·cases h
 ·cases h
theorem K45 {X : Ctx} (hX : X.intr 45 = some (newQ sp45)) {m : Hs} {ra fa oa ha da : AV} {d : List Int} (hm : HsA m ra fa oa ha) {h : Heap} (hd : SeeV h intC da d) : Cl X 45 [.agg [.int .i64 m.hours, ra, fa, oa, ha], da] h (.ret (ordV m d true) h none) := by
 obtain ⟨da', e1, e2⟩ := hd.vD
 refine Cl.newQ hX (l := [.agg [.int .i64 m.hours, ra, fa, oa, ha], da']) ?_ ?_
 ·have e3 : viewD h (.agg [.int .i64 m.hours, ra, fa, oa, ha]) = some (.agg [.int .i64 m.hours, ra, fa, oa, ha]) := viewD_p hm.pur
  simp only [viewDs, e3, e1]
 ·simp only [sp45, hm.hs, e2]
set_option maxHeartbeats 4000000 in
theorem F46 : IntrFn Tryz.prog 46 (newQ sp46) := newQ_fn (X := dX cRL) cRL_sound fun args v h => by
 unfold sp46 at h
 split at h
 ·rename_i xx da
  split at h
  ·rename_i m d hm hd
   have h := Option.some.inj h
   subst h
   obtain ⟨ra, fa, oa, ha, rfl, hA⟩ := hs_parts' hm
   have o1 := sl_out hA.r
   have o2 := sl_out hA.f
   have o3 := sl_out hA.o
   have o4 := sl_out hA.h
   have od := sl_out hd
   have h1 := C118 m ra fa oa ha da d false hA hd
   unfold ClR at h1
   obtain ⟨_, hcl118, pv, pv', n, e, ⟨zn, zm⟩, rfl, hv, hfr, ov, cv, tv⟩ := h1
   rw [hv]
   have HFR := Lib.hid hfr
   simp only [btF, Bool.false_eq_true, if_true, if_false, emptyHp] at hcl118
   simp only [AV.cells] at cv
   simp only [isTuple] at tv
   clear hm hd hA hv hfr
   refine ClR.walk (c := _) rfl Tryz.func46 rfl (by kernel_rfl) rfl isQ_fail ?_
   try simp only [entryEnv, Nat.reduceAdd, List.nil_append, List.cons_append, emptyHp]
   repeat' (first | refine goS ?_ | (apply U6; exact Z1; exact Z1; (focus (simp only [List.nil_append, List.append_nil]; first | exact hcl118)); simp only [pM, pN, rR, rP]) | refine go2 (fun hh => ?_) (fun hh => ?_) | fail)
   all_goals (simp only [resV_def (X := dX cRL) Tryz.func46, Tryz.results46]; first | exact J5 | refine J6 ?_)
   refine isQ_ret (.tuple rfl (fun i hi => ?_))
   have : i = 0 ∨ i = 1 ∨ i = 2 := by simp only [List.length_cons, List.length_nil] at hi; omega
   rcases this with rfl | rfl | rfl
   ·exact HFR.out
   ·exact .flat rfl
   ·exact .flat rfl
  ·cases h
 ·cases h
theorem K46 {X : Ctx} (hX : X.intr 46 = some (newQ sp46)) {m : Hs} {ra fa oa ha da : AV} {d : List Int} (hm : HsA m ra fa oa ha) {h : Heap} (hd : SeeV h intC da d) : Cl X 46 [.agg [.int .i64 m.hours, ra, fa, oa, ha], da] h (.ret (ordV m d false) h none) := by
 obtain ⟨da', e1, e2⟩ := hd.vD
 refine Cl.newQ hX (l := [.agg [.int .i64 m.hours, ra, fa, oa, ha], da']) ?_ ?_
 ·have e3 : viewD h (.agg [.int .i64 m.hours, ra, fa, oa, ha]) = some (.agg [.int .i64 m.hours, ra, fa, oa, ha]) := viewD_p hm.pur
  simp only [viewDs, e3, e1]
 ·simp only [sp46, hm.hs, e2]
noncomputable def cRL2 : Itr
 | 45 => some (newQ sp45)
 | 102 => some (pureFn sp102)
 | _ => none
theorem cRL2_sound : Sound (dX cRL2) := dX_sound (fun f g h => by
 unfold cRL2 at h
 split at h
 ·cases h; exact F45
 ·cases h; exact F102
 ·cases h)
def ordM (m : Hs) (d : List Int) (w : Bool) : Int := match ordP m d w with
 | none => 0
 | some p => mostP m p
def anyV (m : Hs) (limit : Int) (d : List Int) : AV := if (houseB m && dutyP m d && inB limit 0 2000) = true then .tuple [.bool (decide (ordM m d true ≤ limit)), .int .i64 0] else .tuple [.bool false, .int .i64 2]
def sp47 : List AV → Option AV
 | [x, .int .i64 limit, da] => match hsV x, slV intC da with
  | some m, some d => some (anyV m limit d)
  | _, _ => none
 | _ => none
theorem p47 : ∀ args v, sp47 args = some v → v.pur = true := by
 intro args v h
 unfold sp47 at h
 split at h
 ·split at h
  ·cases h; unfold anyV; split <;> rfl
  ·cases h
 ·cases h
theorem ordV_at {m : Hs} {d : List Int} (h : (houseB m && dutyP m d) = true) (w : Bool) : ∃ v, ordV m d w = .tuple [v, .int .i64 (ordM m d w), .int .i64 0] ∧ outV (some v) = some v ∧ isTuple v = false ∧ v.cells = [v] := by
 unfold ordV ordM
 rw [if_pos h]
 cases ordP m d w with
 | none => exact ⟨.nilslice, rfl, rfl, rfl, rfl⟩
 | some p => exact ⟨slN (intsE p), rfl, (slN_is _).out, (slN_is _).tup, (slN_is _).cells⟩
theorem ordV_no {m : Hs} {d : List Int} (h : (houseB m && dutyP m d) = false) (w : Bool) : ordV m d w = .tuple [.nilslice, .int .i64 0, .int .i64 2] := by
 unfold ordV
 rw [h]
 rfl
set_option maxHeartbeats 4000000 in
theorem F47 : IntrFn Tryz.prog 47 (pureFn sp47) := by
 refine pure_fn (X := dX cRL2) cRL2_sound p47 ?_
 intro args v h
 unfold sp47 at h
 split at h
 ·rename_i xx limit da
  split at h
  ·rename_i m d hm hd
   have h := Option.some.inj h
   subst h
   obtain ⟨ra, fa, oa, ha, rfl, hA⟩ := hs_parts' hm
   have o1 := sl_out hA.r
   have o2 := sl_out hA.f
   have o3 := sl_out hA.o
   have o4 := sl_out hA.h
   have od := sl_out hd
   have k45 := fun h => K45 (X := dX cRL2) rfl hA (SeeV.of hd h)
   have k102 := fun h => K102 (X := dX cRL2) rfl limit 0 2000 h
   have n0 : ((0 : Int) != 0) = false := rfl
   have n2 : ((2 : Int) != 0) = true := rfl
   unfold anyV
   cases hq : (houseB m && dutyP m d) with
   | false =>
    rw [ordV_no hq] at k45
    simp only [Bool.false_and, Bool.false_eq_true, if_false]
    clear hm hd hA hq
    refine ClR.walk (c := _) rfl Tryz.func47 rfl (by kernel_rfl) rfl isRet_fail ?_
    try simp only [entryEnv, Nat.reduceAdd, List.nil_append, List.cons_append, emptyHp]
    repeat' (first | refine goS ?_ | (apply U6; exact Z1; exact Z1; (focus (simp only [List.nil_append, List.append_nil]; first | exact k45 _ | exact k102 _)); simp only [pM, pN, rR, rP]) | refine go2 (fun hh => ?_) (fun hh => ?_) | fail)
    all_goals (simp only [resV_def (X := dX cRL2) Tryz.func47, Tryz.results47]; first | exact J5 | refine J6 ?_)
    all_goals rfl
   | true =>
    obtain ⟨pv, hv, ov, tv, cv⟩ := ordV_at hq true
    rw [hv] at k45
    simp only [AV.cells] at cv
    simp only [isTuple] at tv
    cases hl : inB limit 0 2000 with
    | false =>
     rw [hl] at k102
     simp only [Bool.and_false, Bool.false_eq_true, if_false]
     clear hm hd hA hq hv hl
     refine ClR.walk (c := _) rfl Tryz.func47 rfl (by kernel_rfl) rfl isRet_fail ?_
     try simp only [entryEnv, Nat.reduceAdd, List.nil_append, List.cons_append, emptyHp]
     repeat' (first | refine goS ?_ | (apply U6; exact Z1; exact Z1; (focus (simp only [List.nil_append, List.append_nil]; first | exact k45 _ | exact k102 _)); simp only [pM, pN, rR, rP]) | refine go2 (fun hh => ?_) (fun hh => ?_) | fail)
     all_goals (simp only [resV_def (X := dX cRL2) Tryz.func47, Tryz.results47]; first | exact J5 | refine J6 ?_)
     all_goals rfl
    | true =>
     rw [hl] at k102
     simp only [Bool.and_self, if_true]
     clear hm hd hA hq hv hl
     generalize ordM m d true = om at *
     refine ClR.walk (c := _) rfl Tryz.func47 rfl (by kernel_rfl) rfl isRet_fail ?_
     try simp only [entryEnv, Nat.reduceAdd, List.nil_append, List.cons_append, emptyHp]
     repeat' (first | refine goS ?_ | (apply U6; exact Z1; exact Z1; (focus (simp only [List.nil_append, List.append_nil]; first | exact k45 _ | exact k102 _)); simp only [pM, pN, rR, rP]) | refine go2 (fun hh => ?_) (fun hh => ?_) | fail)
     all_goals (simp only [resV_def (X := dX cRL2) Tryz.func47, Tryz.results47]; first | exact J5 | refine J6 ?_)
     all_goals rfl
  ·cases h
 ·cases h
theorem flat47 : ∀ args v, sp47 args = some v → v.flat = true := by
 intro args v h
 unfold sp47 at h
 split at h
 ·split at h
  ·cases h
   unfold anyV
   split <;> rfl
  ·cases h
 ·cases h
theorem F47D : IntrFn Tryz.prog 47 (flatFnD sp47) := flat_of_pure flat47 F47
theorem K47D {X : Ctx} (hX : X.intr 47 = some (flatFnD sp47)) {m : Hs} {ra fa oa ha da : AV} {d : List Int} {h : Heap} (hm : HsA m ra fa oa ha) (hd : SeeV h intC da d) (limit : Int) : Cl X 47 [.agg [.int .i64 m.hours, ra, fa, oa, ha], .int .i64 limit, da] h (.ret (anyV m limit d) h none) := by
 obtain ⟨da', e1, e2⟩ := hd.vD
 have e3 : viewD h (.agg [.int .i64 m.hours, ra, fa, oa, ha]) = some (.agg [.int .i64 m.hours, ra, fa, oa, ha]) := viewD_p hm.pur
 have e4 : viewD h (.int .i64 limit) = some (.int .i64 limit) := viewD_p rfl
 exact Cl.intr hX (by simp only [flatFnD, viewDs, e3, e4, e1, sp47, hm.hs, e2])
end Go.AM
