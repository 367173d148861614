/-
  Texts of the proof: an evaluator of the program's code, its soundness, contracts of functions.
-/
import Derived.Test.YtlhcjccaimmhgaaGreatDoorSAI
import Derived.Test.YtlhcjccaimmhgaaGreatDoorSAH
set_option linter.unusedSectionVars false
set_option linter.unusedVariables false
set_option linter.unusedSimpArgs false
set_option maxRecDepth 100000
namespace Go.AM
open Go Go.Proofs
variable [Keep]
attribute [local irreducible] W WO WO1 WD WQ WT thenQ blockQ endR isRet retK Cl ClR
theorem F172 : IntrFn Tryz.prog 172 (pureFn fun | [.int .i64 _] => some (.bool false) | _ => none) := by
 refine pure_fn (X := dX i0) i0_sound (fun a v h => by split at h <;> cases h; rfl) ?_
 intro args v h
 split at h
 ·cases h
  rename_i x
  have hx : (x != x) = false := by simp
  refine ClR.walk (c := _) rfl Tryz.func172 rfl (by kernel_rfl) rfl isRet_fail ?_
  simp only [entryEnv, Nat.reduceAdd]
  repeat' (first | refine goS ?_ | refine go2 (fun hh => ?_) (fun hh => ?_) | fail)
  all_goals (simp only [resV_def (X := dX i0) Tryz.func172, Tryz.results172]; first | exact J5 | refine J6 ?_)
 ·cases h
def cmpI (x y : Int) : Int := if x < y then -1 else if x > y then 1 else 0
def sp126 : List AV → Option AV
 | [.int .i64 x, .int .i64 y] => some (.int .i64 (cmpI x y))
 | _ => none
noncomputable def cIA : FuncId → Option (List AV → Heap → Option (AV × Heap))
 | 172 => some (pureFn fun | [.int .i64 _] => some (.bool false) | _ => none)
 | _ => none
theorem cIA_sound : Sound (dX cIA) := dX_sound (fun f g h => by
 unfold cIA at h
 split at h
 ·cases h; exact F172
 ·cases h)
set_option maxHeartbeats 1000000 in
theorem F126 : IntrFn Tryz.prog 126 (pureFn sp126) := by
 refine pure_fn (X := dX cIA) cIA_sound (fun a v h => by unfold sp126 at h; split at h <;> cases h; rfl) ?_
 intro args v h
 unfold sp126 at h
 split at h
 ·rename_i x y
  have h := Option.some.inj h
  subst h
  have k172a : ∀ h, Cl (dX cIA) 172 [.int .i64 x] h (.ret (.bool false) h none) := fun h => Cl.intr (g := pureFn fun | [.int .i64 _] => some (.bool false) | _ => none) rfl rfl
  have k172b : ∀ h, Cl (dX cIA) 172 [.int .i64 y] h (.ret (.bool false) h none) := fun h => Cl.intr (g := pureFn fun | [.int .i64 _] => some (.bool false) | _ => none) rfl rfl
  refine ClR.walk (c := _) rfl Tryz.func126 rfl (by kernel_rfl) rfl isRet_fail ?_
  simp only [entryEnv, Nat.reduceAdd]
  have hcase : (decide (x < y) = true ∧ cmpI x y = -1) ∨ (decide (x < y) = false ∧ decide (x > y) = true ∧ cmpI x y = 1) ∨ (decide (x < y) = false ∧ decide (x > y) = false ∧ cmpI x y = 0) := by
   unfold cmpI
   by_cases h1 : x < y
   ·exact .inl ⟨by simpa using h1, by simp [h1]⟩
   ·by_cases h2 : x > y
    ·exact .inr (.inl ⟨by simpa using h1, by simpa using h2, by simp [h1, h2]⟩)
    ·exact .inr (.inr ⟨by simpa using h1, by simpa using h2, by simp [h1, h2]⟩)
  rcases hcase with ⟨q1, e⟩ | ⟨q1, q2, e⟩ | ⟨q1, q2, e⟩
  all_goals (
   rw [e]
   clear e
   repeat' (first | refine goS ?_ | (apply U6; exact Z1; exact Z1; (focus (simp only [List.nil_append, List.append_nil]; first | exact k172a _ | exact k172b _)); simp only [pM, pN, rR, rP]) | refine go2 (fun hh => ?_) (fun hh => ?_) | fail)
   all_goals (simp only [resV_def (X := dX cIA) Tryz.func126, Tryz.results126]; first | exact J5 | refine J6 ?_))
 ·cases h
theorem K126 {X : Ctx} (hX : X.intr 126 = some (pureFn sp126)) (x y : Int) (h : Heap) : Cl X 126 [.int .i64 x, .int .i64 y] h (.ret (.int .i64 (cmpI x y)) h none) := Cl.intr hX rfl
def orI (l : List Int) : Int := (l.find? fun x => x != 0).getD 0
def sp125 : List AV → Option AV
 | [la] => (slV intC la).map fun l => .int .i64 (orI l)
 | _ => none
theorem or_at {l : List Int} {k : Nat} {x : Int} (h1 : (l.take k).all (fun x => !(x != 0)) = true) (hp : l[k]? = some x) (h2 : (x != 0) = true) : orI l = x := by
 have e : l = l.take k ++ x :: l.drop (k + 1) := by
  obtain ⟨hk, he⟩ := List.getElem?_eq_some_iff.1 hp
  rw [← he, ← List.drop_eq_getElem_cons hk, List.take_append_drop]
 unfold orI
 rw [e, List.find?_append]
 have h3 : (l.take k).find? (fun x => x != 0) = none := by
  rw [List.find?_eq_none]
  intro y hy
  have := List.all_eq_true.1 h1 y hy
  simpa using this
 rw [h3, List.find?_cons_of_pos (by exact h2)]
 rfl
theorem or_none {l : List Int} (h1 : l.all (fun x => !(x != 0)) = true) : orI l = 0 := by
 unfold orI
 have h3 : l.find? (fun x => x != 0) = none := by
  rw [List.find?_eq_none]
  intro y hy
  have := List.all_eq_true.1 h1 y hy
  simpa using this
 rw [h3]
 rfl
set_option maxHeartbeats 1000000 in
theorem F125 : IntrFn Tryz.prog 125 (pureFn sp125) := by
 refine pure_fn (X := dX i0) i0_sound (fun a v h => by
  unfold sp125 at h
  split at h
  ·simp only [Option.map_eq_some_iff] at h; obtain ⟨l, _, rfl⟩ := h; rfl
  ·cases h) ?_
 intro args v h
 unfold sp125 at h
 split at h
 ·rename_i la
  simp only [Option.map_eq_some_iff] at h
  obtain ⟨l, hl, rfl⟩ := h
  have o1 := sl_out hl
  have ln := sl_len hl
  have hmax := sl_max hl
  have HL := Lib.hid hl
  clear hl
  refine ClR.walk (c := _) rfl Tryz.func125 rfl (by kernel_rfl) rfl isRet_fail ?_
  simp only [entryEnv, Nat.reduceAdd, emptyHp]
  repeat' (first | refine goS ?_ | refine go2 (fun hh => ?_) (fun hh => ?_) | fail)
  refine W.loopN l.length (fun k F => ∃ e, F = Fr.mk 125 false e .nil ⟨0, .nil⟩ [] none ∧ (l.take k).all (fun x => !(x != 0)) = true ∧ e.get 3 = some (.int .i64 0) ∧ e.get 6 = some la ∧ e.get 7 = some (.int .i64 ↑l.length) ∧ e.get 8 = some (.int .i64 ↑k) ∧ k ≤ l.length) ?_ ?_
  ·refine ⟨_, rfl, ?_, ?_, ?_, ?_, ?_, ?_⟩ <;> first | exact Z2 | simp [go_sem, *]
  rintro k F ⟨e, rfl, hall, h3, h6, h7, h8, hk⟩
  have HA := Lib.hid hall
  clear hall
  by_cases hlt : k < l.length
  ·have hd : decide ((k : Int) < (l.length : Int)) = true := by simpa using hlt
   have hw := wrap_succ hlt hmax
   obtain ⟨x, hx⟩ := get_some hlt
   have hix := fun H => ints_idx HL.out hx H
   have HX := Lib.hid hx
   clear hx
   cases hq : (x != 0) with
   | true =>
    have HO := Lib.hid (or_at HA.out HX.out hq)
    repeat' (first | refine goS ?_ | refine go2 (fun hh => ?_) (fun hh => ?_) | fail)
    all_goals (simp only [resV_def (X := dX i0) Tryz.func125, Tryz.results125]; first | exact J5 | refine J6 ?_)
    rw [HO.out]
   | false =>
    have hnx : (l.take (k + 1)).all (fun x => !(x != 0)) = true := by
     rw [take_next HX.out, List.all_append, HA.out]
     simp only [List.all_cons, List.all_nil, hq]
     rfl
    have HN := Lib.hid hnx
    clear hnx
    repeat' (first | refine goS ?_ | refine go2 (fun hh => ?_) (fun hh => ?_) | fail)
    refine ⟨hlt, _, rfl, HN.out, ?_, ?_, ?_, ?_, by omega⟩
    all_goals exact Z2
  ·have hd : decide ((k : Int) < (l.length : Int)) = false := by simpa using hlt
   have h2 := HA.out
   rw [show k = l.length by omega, List.take_length] at h2
   have HO := Lib.hid (or_none h2)
   clear h2 hlt hk
   repeat' (first | refine goS ?_ | refine go2 (fun hh => ?_) (fun hh => ?_) | fail)
   all_goals (simp only [resV_def (X := dX i0) Tryz.func125, Tryz.results125]; first | exact J5 | refine J6 ?_)
   rw [HO.out]
 ·cases h
theorem K125 {X : Ctx} (hX : X.intr 125 = some (pureFn sp125)) (l : List Int) (hl : l.length ≤ maxL) (h : Heap) : Cl X 125 [slN (l.map intC.enc)] h (.ret (.int .i64 (orI l)) h none) :=
 Cl.intr hX (by
  have h1 := slV_slN (c := intC) hl
  simp [pureFn, AV.purL, sl_pur h1, sp125, h1])
def cmpP (p q : Pt) : Int := orI [cmpI p.x q.x, cmpI p.y q.y]
def sp128 : List AV → Option AV
 | [.agg [.int .i64 px, .int .i64 py], .agg [.int .i64 qx, .int .i64 qy]] => some (.int .i64 (cmpP ⟨px, py⟩ ⟨qx, qy⟩))
 | _ => none
noncomputable def cIA2 : FuncId → Option (List AV → Heap → Option (AV × Heap))
 | 125 => some (pureFn sp125)
 | 126 => some (pureFn sp126)
 | _ => none
theorem cIA2_sound : Sound (dX cIA2) := dX_sound (fun f g h => by
 unfold cIA2 at h
 split at h
 ·cases h; exact F125
 ·cases h; exact F126
 ·cases h)
set_option maxHeartbeats 1000000 in
theorem F128 : IntrFn Tryz.prog 128 (pureFn sp128) := by
 refine pure_fn (X := dX cIA2) cIA2_sound (fun a v h => by unfold sp128 at h; split at h <;> cases h; rfl) ?_
 intro args v h
 unfold sp128 at h
 split at h
 ·rename_i px py qx qy
  have h := Option.some.inj h
  subst h
  have k126a := fun h => K126 (X := dX cIA2) rfl px qx h
  have k126b := fun h => K126 (X := dX cIA2) rfl py qy h
  have k125 := fun h => K125 (X := dX cIA2) rfl [cmpI px qx, cmpI py qy] (by simp [maxL]) h
  simp only [List.map_cons, List.map_nil, intC, slN] at k125
  have HC := Lib.hid (show cmpP ⟨px, py⟩ ⟨qx, qy⟩ = orI [cmpI px qx, cmpI py qy] from rfl)
  generalize orI [cmpI px qx, cmpI py qy] = r at *
  generalize cmpI px qx = c1 at *
  generalize cmpI py qy = c2 at *
  refine ClR.walk (c := _) rfl Tryz.func128 rfl (by kernel_rfl) rfl isRet_fail ?_
  simp only [entryEnv, Nat.reduceAdd]
  repeat' (first | (apply W.drawQ (id := 1) (l1 := [0, 1, 2, 3, 4, 5, 6, 7, 8, 9, 10, 11, 12]) (l2 := []); kernel_rfl; kernel_rfl; kernel_rfl; exact Z4) | refine go1 ?_ | (apply U6; exact Z1; exact Z1; (focus (simp only [List.nil_append, List.append_nil]; first | exact k126a _ | exact k126b _ | exact k125 _)); simp only [pM, pN, rR, rP]) | refine go2 (fun hh => ?_) (fun hh => ?_) | fail)
  all_goals (simp only [resV_def (X := dX cIA2) Tryz.func128, Tryz.results128]; first | exact J5 | refine J6 ?_)
  rw [HC.out]
 ·cases h
theorem K128 {X : Ctx} (hX : X.intr 128 = some (pureFn sp128)) (p q : Pt) (h : Heap) : Cl X 128 [.agg [.int .i64 p.x, .int .i64 p.y], .agg [.int .i64 q.x, .int .i64 q.y]] h (.ret (.int .i64 (cmpP p q)) h none) := Cl.intr hX rfl
def cmpL : List Pt → List Pt → Int
 | [], [] => 0
 | [], _ :: _ => -1
 | _ :: _, [] => 1
 | p :: r, q :: s => if cmpP p q != 0 then cmpP p q else cmpL r s
theorem cmpL_drop {l m : List Pt} {k : Nat} {p q : Pt} (h1 : l[k]? = some p) (h2 : m[k]? = some q) : cmpL (l.drop k) (m.drop k) = if cmpP p q != 0 then cmpP p q else cmpL (l.drop (k + 1)) (m.drop (k + 1)) := by
 obtain ⟨a, e1⟩ := List.getElem?_eq_some_iff.1 h1
 obtain ⟨b, e2⟩ := List.getElem?_eq_some_iff.1 h2
 rw [List.drop_eq_getElem_cons a, List.drop_eq_getElem_cons b, e1, e2]
 rfl
def sp127 : List AV → Option AV
 | [la, ma, .func (.func 128) [] []] => match slV ptC la, slV ptC ma with
  | some l, some m => some (.int .i64 (cmpL l m))
  | _, _ => none
 | _ => none
noncomputable def cIA3 : FuncId → Option (List AV → Heap → Option (AV × Heap))
 | 128 => some (pureFn sp128)
 | _ => none
theorem cIA3_sound : Sound (dX cIA3) := dX_sound (fun f g h => by
 unfold cIA3 at h
 split at h
 ·cases h; exact F128
 ·cases h)
set_option maxHeartbeats 2000000 in
theorem F127 : IntrFn Tryz.prog 127 (pureFn sp127) := by
 refine pure_fn (X := dX cIA3) cIA3_sound (fun a v h => by
  unfold sp127 at h
  split at h
  ·split at h
   ·cases h; rfl
   ·cases h
  ·cases h) ?_
 intro args v h
 unfold sp127 at h
 split at h
 ·rename_i la ma
  split at h
  ·rename_i l m hl hm
   have h := Option.some.inj h
   subst h
   have o1 := sl_out hl
   have o2 := sl_out hm
   have ln1 := sl_len hl
   have ln2 := sl_len hm
   have hmax := sl_max hl
   have HL := Lib.hid hl
   have HM := Lib.hid hm
   generalize hres : cmpL l m = res
   have HRES := Lib.hid hres
   clear hl hm hres
   refine ClR.walk (c := _) rfl Tryz.func127 rfl (by kernel_rfl) rfl isRet_fail ?_
   simp only [entryEnv, Nat.reduceAdd, emptyHp]
   repeat' (first | refine goS ?_ | refine go2 (fun hh => ?_) (fun hh => ?_) | fail)
   refine W.loopN l.length (fun k F => ∃ e lm, F = Fr.mk 127 false e lm ⟨0, .nil⟩ [] none ∧ cmpL (l.drop k) (m.drop k) = res ∧ e.get 0 = some la ∧ e.get 1 = some ma ∧ e.get 2 = some (.func (.func 128) [] []) ∧ e.get 11 = some la ∧ e.get 12 = some (.int .i64 ↑l.length) ∧ e.get 13 = some (.int .i64 ↑k) ∧ k ≤ l.length ∧ k ≤ m.length) ?_ ?_
   ·refine ⟨_, _, rfl, HRES.out, ?_, ?_, ?_, ?_, ?_, ?_, ?_, ?_⟩ <;> first | exact Z2 | simp [go_sem, *]
   rintro k F ⟨e, lm, rfl, hrest, h0, h1, h2, h11, h12, h13, hk, hkm⟩
   have HR := Lib.hid hrest
   clear hrest
   by_cases hlt : k < l.length
   ·have hd : decide ((k : Int) < (l.length : Int)) = true := by simpa using hlt
    have hw := wrap_succ hlt hmax
    obtain ⟨p, hp⟩ := get_some hlt
    have hix := pts_idx HL.out hp
    have HP := Lib.hid hp
    clear hp
    by_cases hmt : k < m.length
    ·have hge : decide ((k : Int) ≥ (m.length : Int)) = false := by simp; omega
     obtain ⟨q, hq⟩ := get_some hmt
     have hiy := pts_idx HM.out hq
     have hcl := fun h => K128 (X := dX cIA3) rfl p q h
     have hst := cmpL_drop HP.out hq
     rw [HR.out] at hst
     have HST := Lib.hid hst
     clear hq hst
     generalize cmpP p q = cp at *
     cases hne : (cp != 0) with
     | true =>
      have e1 : res = cp := by rw [HST.out, if_pos hne]
      subst e1
      clear hlt hmt
      repeat' (first | refine goS ?_ | (apply U6; exact Z1; exact Z1; (focus (simp only [List.nil_append, List.append_nil]; first | exact hcl _)); simp only [pM, pN, rR, rP]) | refine go2 (fun hh => ?_) (fun hh => ?_) | fail)
      all_goals (simp only [resV_def (X := dX cIA3) Tryz.func127, Tryz.results127]; first | exact J5 | refine J6 ?_)
     | false =>
      have e1 : cmpL (l.drop (k + 1)) (m.drop (k + 1)) = res := by rw [HST.out, if_neg (by rw [hne]; simp)]
      have HE := Lib.hid e1
      clear e1
      repeat' (first | refine goS ?_ | (apply U6; exact Z1; exact Z1; (focus (simp only [List.nil_append, List.append_nil]; first | exact hcl _)); simp only [pM, pN, rR, rP]) | refine go2 (fun hh => ?_) (fun hh => ?_) | fail)
      refine ⟨hlt, _, _, rfl, HE.out, ?_, ?_, ?_, ?_, ?_, ?_, by omega, by omega⟩
      all_goals exact Z2
    ·have hge : decide ((k : Int) ≥ (m.length : Int)) = true := by simp; omega
     have e1 : res = 1 := by
      have := HR.out
      obtain ⟨a, e1⟩ := List.getElem?_eq_some_iff.1 HP.out
      rw [List.drop_eq_getElem_cons a, List.drop_eq_nil_of_le (show m.length ≤ k by omega)] at this
      exact this.symm
     subst e1
     clear hlt hmt
     repeat' (first | refine goS ?_ | refine go2 (fun hh => ?_) (fun hh => ?_) | fail)
     all_goals (simp only [resV_def (X := dX cIA3) Tryz.func127, Tryz.results127]; first | exact J5 | refine J6 ?_)
   ·have hd : decide ((k : Int) < (l.length : Int)) = false := by simpa using hlt
    have hr := HR.out
    rw [show k = l.length by omega, List.drop_length] at hr
    by_cases hlm : l.length < m.length
    ·have hd2 : decide ((l.length : Int) < (m.length : Int)) = true := by simpa using hlm
     rw [List.drop_eq_getElem_cons hlm] at hr
     have e1 : res = -1 := hr.symm
     subst e1
     clear hlt hlm hr
     repeat' (first | refine goS ?_ | refine go2 (fun hh => ?_) (fun hh => ?_) | fail)
     all_goals (simp only [resV_def (X := dX cIA3) Tryz.func127, Tryz.results127]; first | exact J5 | refine J6 ?_)
    ·have hd2 : decide ((l.length : Int) < (m.length : Int)) = false := by simpa using hlm
     rw [List.drop_eq_nil_of_le (show m.length ≤ l.length by omega)] at hr
     have e1 : res = 0 := hr.symm
     subst e1
     clear hlt hlm hr
     repeat' (first | refine goS ?_ | refine go2 (fun hh => ?_) (fun hh => ?_) | fail)
     all_goals (simp only [resV_def (X := dX cIA3) Tryz.func127, Tryz.results127]; first | exact J5 | refine J6 ?_)
  ·cases h
 ·cases h
theorem K127 {X : Ctx} (hX : X.intr 127 = some (pureFn sp127)) (la ma : AV) (l m : List Pt) (hl : slV ptC la = some l) (hm : slV ptC ma = some m) (h : Heap) : Cl X 127 [la, ma, .func (.func 128) [] []] h (.ret (.int .i64 (cmpL l m)) h none) :=
 Cl.intr hX (by simp [pureFn, AV.pur, AV.purL, sl_pur hl, sl_pur hm, sp127, hl, hm])
structure Rs where
 st : List Pt
 n : Int
 w : Int
def cmpR (a b : Rs) : Int := orI [cmpI a.n b.n, cmpI a.w b.w, cmpL a.st b.st]
def sp124 : List AV → Option AV
 | [.agg [sa, .int .i64 n, .int .i64 w], .agg [ta, .int .i64 m, .int .i64 v]] => match slV ptC sa, slV ptC ta with
  | some s, some t => some (.bool (decide (cmpR ⟨s, n, w⟩ ⟨t, m, v⟩ < 0)))
  | _, _ => none
 | _ => none
noncomputable def cIA4 : FuncId → Option (List AV → Heap → Option (AV × Heap))
 | 125 => some (pureFn sp125)
 | 126 => some (pureFn sp126)
 | 127 => some (pureFn sp127)
 | _ => none
theorem cIA4_sound : Sound (dX cIA4) := dX_sound (fun f g h => by
 unfold cIA4 at h
 split at h
 ·cases h; exact F125
 ·cases h; exact F126
 ·cases h; exact F127
 ·cases h)
set_option maxHeartbeats 1000000 in
theorem F124 : IntrFn Tryz.prog 124 (pureFn sp124) := by
 refine pure_fn (X := dX cIA4) cIA4_sound (fun a v h => by
  unfold sp124 at h
  split at h
  ·split at h
   ·cases h; rfl
   ·cases h
  ·cases h) ?_
 intro args v h
 unfold sp124 at h
 split at h
 ·rename_i sa n w ta m v
  split at h
  ·rename_i s t hs ht
   have h := Option.some.inj h
   subst h
   have o1 := sl_out hs
   have o2 := sl_out ht
   obtain ⟨n1, t1⟩ := sl_one hs
   obtain ⟨n2, t2⟩ := sl_one ht
   have k126a := fun h => K126 (X := dX cIA4) rfl n m h
   have k126b := fun h => K126 (X := dX cIA4) rfl w v h
   have k127 := fun h => K127 (X := dX cIA4) rfl sa ta s t hs ht h
   have k125 := fun h => K125 (X := dX cIA4) rfl [cmpI n m, cmpI w v, cmpL s t] (by simp [maxL]) h
   simp only [List.map_cons, List.map_nil, intC, slN] at k125
   have HC := Lib.hid (show cmpR ⟨s, n, w⟩ ⟨t, m, v⟩ = orI [cmpI n m, cmpI w v, cmpL s t] from rfl)
   generalize orI [cmpI n m, cmpI w v, cmpL s t] = r at *
   generalize cmpI n m = c1 at *
   generalize cmpI w v = c2 at *
   generalize cmpL s t = c3 at *
   clear hs ht
   refine ClR.walk (c := _) rfl Tryz.func124 rfl (by kernel_rfl) rfl isRet_fail ?_
   simp only [entryEnv, Nat.reduceAdd]
   repeat' (first | (apply W.drawQ (id := 1) (l1 := [0, 1, 2, 3, 4, 5, 6, 7, 8, 9, 10, 11, 12, 13, 14, 15, 16, 17, 18]) (l2 := []); kernel_rfl; kernel_rfl; kernel_rfl; exact Z4) | refine go1 ?_ | (apply U6; exact Z1; exact Z1; (focus (simp only [List.nil_append, List.append_nil]; first | exact k126a _ | exact k126b _ | exact k127 _ | exact k125 _)); simp only [pM, pN, rR, rP]) | refine go2 (fun hh => ?_) (fun hh => ?_) | fail)
   all_goals (simp only [resV_def (X := dX cIA4) Tryz.func124, Tryz.results124]; first | exact J5 | refine J6 ?_)
   rw [HC.out]
  ·cases h
 ·cases h
theorem K124 {X : Ctx} (hX : X.intr 124 = some (pureFn sp124)) (sa ta : AV) (s t : List Pt) (n w m v : Int) (hs : slV ptC sa = some s) (ht : slV ptC ta = some t) (h : Heap) : Cl X 124 [.agg [sa, .int .i64 n, .int .i64 w], .agg [ta, .int .i64 m, .int .i64 v]] h (.ret (.bool (decide (cmpR ⟨s, n, w⟩ ⟨t, m, v⟩ < 0))) h none) :=
 Cl.intr hX (by simp [pureFn, AV.pur, AV.purL, sl_pur hs, sl_pur ht, sp124, hs, ht])
end Go.AM
