/-
  Texts of the proof: an evaluator of the program's code, its soundness, contracts of functions.
-/
import Derived.Test.YtlhcjccaimmhgaaGreatDoorSAD
import Derived.Shelf.Strconv.Itoa3
import Derived.Shelf.Strings.OnBuilder
import Derived.Carry
import Derived.Test.YtlhcjccaimmhgaaGreatDoorTie
import Derived.ProofKit
import Derived.ChangeCalls
import Derived.OpenShut
import Derived.LaidMore
import Derived.Lay
import Derived.SevenTiedAt
import Derived.Stop.Joined
import Derived.Lib.Hide
import Derived.Shelf.LaysM
import Derived.Test.YtlhcjccaimmhgaaGreatDoorProg
import Derived.KernelRfl
set_option linter.unusedSectionVars false
set_option linter.unusedVariables false
set_option linter.unusedSimpArgs false
set_option maxRecDepth 100000
namespace Go.AM
open Go Go.Proofs
variable [Keep]
attribute [local irreducible] W WO WO1 WD WQ WT thenQ blockQ endR isRet retK Cl ClR
def w64 (n : Int) : Int := IntKind.i64.wrap n
def inB (x lo hi : Int) : Bool := decide (x ≥ lo) && decide (x ≤ hi)
def spanB (l h lo hi wide : Int) : Bool := decide (l ≥ lo) && decide (l ≤ h) && decide (h ≤ hi) && decide (w64 (h - l) ≤ wide)
noncomputable def i0 : FuncId → Option (List AV → Heap → Option (AV × Heap)) := fun _ => none
theorem i0_sound : Sound (dX i0) := dX_sound (fun f g h => by cases h)
def sp93 : List AV → Option AV
 | [.int .i64 x, .int .i64 lo, .int .i64 hi] => some (.bool (inB x lo hi))
 | _ => none
theorem p93 : ∀ args v, sp93 args = some v → v.pur = true := by
 intro args v h
 unfold sp93 at h
 split at h
 ·cases h; rfl
 ·cases h
set_option maxHeartbeats 200000 in
theorem F93 : IntrFn Tryz.prog 93 (pureFn sp93) := by
 refine pure_fn (X := (dX i0)) i0_sound p93 ?_
 intro args v h
 unfold sp93 at h
 split at h
 ·cases h
  rename_i x lo hi
  refine ClR.walk (c := _) rfl Tryz.func93 rfl (by kernel_rfl) rfl isRet_fail ?_
  simp only [entryEnv, Nat.reduceAdd]
  repeat' (first | refine goS ?_ | refine go2 (fun hh => ?_) (fun hh => ?_) | fail)
  all_goals (simp only [resV_def (X := dX i0) Tryz.func93, Tryz.results93]; first | exact J5 | refine J6 ?_)
  all_goals simp [inB, *]
 ·cases h
theorem K93 {X : Ctx} (hX : X.intr 93 = some (pureFn sp93)) (x lo hi : Int) (h : Heap) : Cl X 93 [.int .i64 x, .int .i64 lo, .int .i64 hi] h (.ret (.bool (inB x lo hi)) h none) := Cl.intr hX rfl
def sp97 : List AV → Option AV
 | [.int .i64 x, .int .i64 lo, .int .i64 hi] => some (.bool (inB x lo hi))
 | _ => none
theorem p97 : ∀ args v, sp97 args = some v → v.pur = true := by
 intro args v h
 unfold sp97 at h
 split at h
 ·cases h; rfl
 ·cases h
set_option maxHeartbeats 200000 in
theorem F97 : IntrFn Tryz.prog 97 (pureFn sp97) := by
 refine pure_fn (X := (dX i0)) i0_sound p97 ?_
 intro args v h
 unfold sp97 at h
 split at h
 ·cases h
  rename_i x lo hi
  refine ClR.walk (c := _) rfl Tryz.func97 rfl (by kernel_rfl) rfl isRet_fail ?_
  simp only [entryEnv, Nat.reduceAdd]
  repeat' (first | refine goS ?_ | refine go2 (fun hh => ?_) (fun hh => ?_) | fail)
  all_goals (simp only [resV_def (X := dX i0) Tryz.func97, Tryz.results97]; first | exact J5 | refine J6 ?_)
  all_goals simp [inB, *]
 ·cases h
theorem K97 {X : Ctx} (hX : X.intr 97 = some (pureFn sp97)) (x lo hi : Int) (h : Heap) : Cl X 97 [.int .i64 x, .int .i64 lo, .int .i64 hi] h (.ret (.bool (inB x lo hi)) h none) := Cl.intr hX rfl
def sp190 : List AV → Option AV
 | [.int .i64 x, .int .i64 off] => some (.agg [.int .i64 (w64 (x - off)), .int .i64 (w64 (x + off))])
 | _ => none
theorem p190 : ∀ args v, sp190 args = some v → v.pur = true := by
 intro args v h
 unfold sp190 at h
 split at h
 ·cases h; rfl
 ·cases h
set_option maxHeartbeats 200000 in
theorem F190 : IntrFn Tryz.prog 190 (pureFn sp190) := by
 refine pure_fn (X := (dX i0)) i0_sound p190 ?_
 intro args v h
 unfold sp190 at h
 split at h
 ·cases h
  refine ClR.walk (c := _) rfl Tryz.func190 rfl (by kernel_rfl) rfl isRet_fail ?_
  simp only [entryEnv, Nat.reduceAdd]
  repeat' (first | refine goS ?_ | refine go2 (fun hh => ?_) (fun hh => ?_) | fail)
  all_goals (simp only [resV_def (X := dX i0) Tryz.func190, Tryz.results190]; first | exact J5 | refine J6 ?_)
  all_goals rfl
 ·cases h
theorem K190 {X : Ctx} (hX : X.intr 190 = some (pureFn sp190)) (x off : Int) (h : Heap) : Cl X 190 [.int .i64 x, .int .i64 off] h (.ret (.agg [.int .i64 (w64 (x - off)), .int .i64 (w64 (x + off))]) h none) := Cl.intr hX rfl
def sp80 : List AV → Option AV
 | [.int .i64 x, .int .i64 y] => some (.agg [.int .i64 x, .int .i64 y])
 | _ => none
theorem p80 : ∀ args v, sp80 args = some v → v.pur = true := by
 intro args v h
 unfold sp80 at h
 split at h
 ·cases h; rfl
 ·cases h
set_option maxHeartbeats 200000 in
theorem F80 : IntrFn Tryz.prog 80 (pureFn sp80) := by
 refine pure_fn (X := (dX i0)) i0_sound p80 ?_
 intro args v h
 unfold sp80 at h
 split at h
 ·cases h
  refine ClR.walk (c := _) rfl Tryz.func80 rfl (by kernel_rfl) rfl isRet_fail ?_
  simp only [entryEnv, Nat.reduceAdd]
  repeat' (first | refine goS ?_ | refine go2 (fun hh => ?_) (fun hh => ?_) | fail)
  all_goals (simp only [resV_def (X := dX i0) Tryz.func80, Tryz.results80]; first | exact J5 | refine J6 ?_)
  all_goals rfl
 ·cases h
def sp92 : List AV → Option AV
 | [.int .i64 x, .int .i64 y] => some (.agg [.int .i64 x, .int .i64 y])
 | _ => none
theorem p92 : ∀ args v, sp92 args = some v → v.pur = true := by
 intro args v h
 unfold sp92 at h
 split at h
 ·cases h; rfl
 ·cases h
set_option maxHeartbeats 200000 in
theorem F92 : IntrFn Tryz.prog 92 (pureFn sp92) := by
 refine pure_fn (X := (dX i0)) i0_sound p92 ?_
 intro args v h
 unfold sp92 at h
 split at h
 ·cases h
  refine ClR.walk (c := _) rfl Tryz.func92 rfl (by kernel_rfl) rfl isRet_fail ?_
  simp only [entryEnv, Nat.reduceAdd]
  repeat' (first | refine goS ?_ | refine go2 (fun hh => ?_) (fun hh => ?_) | fail)
  all_goals (simp only [resV_def (X := dX i0) Tryz.func92, Tryz.results92]; first | exact J5 | refine J6 ?_)
  all_goals rfl
 ·cases h
def sp252 : List AV → Option AV
 | [.int .i64 x] => some (.int .i64 x)
 | _ => none
theorem p252 : ∀ args v, sp252 args = some v → v.pur = true := by
 intro args v h
 unfold sp252 at h
 split at h
 ·cases h; rfl
 ·cases h
set_option maxHeartbeats 200000 in
theorem F252 : IntrFn Tryz.prog 252 (pureFn sp252) := by
 refine pure_fn (X := (dX i0)) i0_sound p252 ?_
 intro args v h
 unfold sp252 at h
 split at h
 ·cases h
  refine ClR.walk (c := _) rfl Tryz.func252 rfl (by kernel_rfl) rfl isRet_fail ?_
  simp only [entryEnv, Nat.reduceAdd]
  repeat' (first | refine goS ?_ | refine go2 (fun hh => ?_) (fun hh => ?_) | fail)
  all_goals (simp only [resV_def (X := dX i0) Tryz.func252, Tryz.results252]; first | exact J5 | refine J6 ?_)
  all_goals rfl
 ·cases h
theorem K252 {X : Ctx} (hX : X.intr 252 = some (pureFn sp252)) (x : Int) (h : Heap) : Cl X 252 [.int .i64 x] h (.ret (.int .i64 x) h none) := Cl.intr hX rfl
def sp253 : List AV → Option AV
 | [.int .i64 x] => some (.int .i64 x)
 | _ => none
theorem p253 : ∀ args v, sp253 args = some v → v.pur = true := by
 intro args v h
 unfold sp253 at h
 split at h
 ·cases h; rfl
 ·cases h
set_option maxHeartbeats 200000 in
theorem F253 : IntrFn Tryz.prog 253 (pureFn sp253) := by
 refine pure_fn (X := (dX i0)) i0_sound p253 ?_
 intro args v h
 unfold sp253 at h
 split at h
 ·cases h
  refine ClR.walk (c := _) rfl Tryz.func253 rfl (by kernel_rfl) rfl isRet_fail ?_
  simp only [entryEnv, Nat.reduceAdd]
  repeat' (first | refine goS ?_ | refine go2 (fun hh => ?_) (fun hh => ?_) | fail)
  all_goals (simp only [resV_def (X := dX i0) Tryz.func253, Tryz.results253]; first | exact J5 | refine J6 ?_)
  all_goals rfl
 ·cases h
theorem K253 {X : Ctx} (hX : X.intr 253 = some (pureFn sp253)) (x : Int) (h : Heap) : Cl X 253 [.int .i64 x] h (.ret (.int .i64 x) h none) := Cl.intr hX rfl
def sp158 : List AV → Option AV
 | [.agg [.int .i64 ax, .int .i64 ay], .agg [.int .i64 bx, .int .i64 by_]] => some (.agg [.int .i64 (maxV ax bx), .int .i64 (minV ay by_)])
 | _ => none
theorem p158 : ∀ args v, sp158 args = some v → v.pur = true := by
 intro args v h
 unfold sp158 at h
 split at h
 ·cases h; rfl
 ·cases h
set_option maxHeartbeats 200000 in
theorem F158 : IntrFn Tryz.prog 158 (pureFn sp158) := by
 refine pure_fn (X := (dX i0)) i0_sound p158 ?_
 intro args v h
 unfold sp158 at h
 split at h
 ·cases h
  refine ClR.walk (c := _) rfl Tryz.func158 rfl (by kernel_rfl) rfl isRet_fail ?_
  simp only [entryEnv, Nat.reduceAdd]
  repeat' (first | refine goS ?_ | refine go2 (fun hh => ?_) (fun hh => ?_) | fail)
  all_goals (simp only [resV_def (X := dX i0) Tryz.func158, Tryz.results158]; first | exact J5 | refine J6 ?_)
  all_goals rfl
 ·cases h
theorem K158 {X : Ctx} (hX : X.intr 158 = some (pureFn sp158)) (ax ay bx by_ : Int) (h : Heap) : Cl X 158 [.agg [.int .i64 ax, .int .i64 ay], .agg [.int .i64 bx, .int .i64 by_]] h (.ret (.agg [.int .i64 (maxV ax bx), .int .i64 (minV ay by_)]) h none) := Cl.intr hX rfl
def sp174 : List AV → Option AV
 | [.int .i64 n, .agg [.int .i64 sx, .int .i64 sy]] => some (.int .i64 (maxV sx (minV sy n)))
 | _ => none
theorem p174 : ∀ args v, sp174 args = some v → v.pur = true := by
 intro args v h
 unfold sp174 at h
 split at h
 ·cases h; rfl
 ·cases h
set_option maxHeartbeats 200000 in
theorem F174 : IntrFn Tryz.prog 174 (pureFn sp174) := by
 refine pure_fn (X := (dX i0)) i0_sound p174 ?_
 intro args v h
 unfold sp174 at h
 split at h
 ·cases h
  refine ClR.walk (c := _) rfl Tryz.func174 rfl (by kernel_rfl) rfl isRet_fail ?_
  simp only [entryEnv, Nat.reduceAdd]
  repeat' (first | refine goS ?_ | refine go2 (fun hh => ?_) (fun hh => ?_) | fail)
  all_goals (simp only [resV_def (X := dX i0) Tryz.func174, Tryz.results174]; first | exact J5 | refine J6 ?_)
  all_goals rfl
 ·cases h
def sp135 : List AV → Option AV
 | [.agg [.int .i64 sx, .int .i64 sy], .int .i64 lo, .int .i64 hi, .int .i64 wide] => some (.bool (spanB sx sy lo hi wide))
 | _ => none
theorem p135 : ∀ args v, sp135 args = some v → v.pur = true := by
 intro args v h
 unfold sp135 at h
 split at h
 ·cases h; rfl
 ·cases h
set_option maxHeartbeats 200000 in
theorem F135 : IntrFn Tryz.prog 135 (pureFn sp135) := by
 refine pure_fn (X := (dX i0)) i0_sound p135 ?_
 intro args v h
 unfold sp135 at h
 split at h
 ·cases h
  rename_i sx sy lo hi wide
  refine ClR.walk (c := _) rfl Tryz.func135 rfl (by kernel_rfl) rfl isRet_fail ?_
  simp only [entryEnv, Nat.reduceAdd]
  repeat' (first | refine goS ?_ | refine go2 (fun hh => ?_) (fun hh => ?_) | fail)
  all_goals (simp only [resV_def (X := dX i0) Tryz.func135, Tryz.results135]; first | exact J5 | refine J6 ?_)
  all_goals first | (simp [spanB, w64, *]; done) | (simp [spanB, w64, *]; rfl)
 ·cases h
theorem K135 {X : Ctx} (hX : X.intr 135 = some (pureFn sp135)) (sx sy lo hi wide : Int) (h : Heap) : Cl X 135 [.agg [.int .i64 sx, .int .i64 sy], .int .i64 lo, .int .i64 hi, .int .i64 wide] h (.ret (.bool (spanB sx sy lo hi wide)) h none) := Cl.intr hX rfl
def sp151 : List AV → Option AV
 | [.agg [.int .i64 sx, .int .i64 sy], .int .i64 most, .int .i64 wide] => some (.bool (spanB sx sy (w64 (-most)) most wide))
 | _ => none
theorem p151 : ∀ args v, sp151 args = some v → v.pur = true := by
 intro args v h
 unfold sp151 at h
 split at h
 ·cases h; rfl
 ·cases h
set_option maxHeartbeats 200000 in
theorem F151 : IntrFn Tryz.prog 151 (pureFn sp151) := by
 refine pure_fn (X := (dX i0)) i0_sound p151 ?_
 intro args v h
 unfold sp151 at h
 split at h
 ·cases h
  rename_i sx sy most wide
  refine ClR.walk (c := _) rfl Tryz.func151 rfl (by kernel_rfl) rfl isRet_fail ?_
  simp only [entryEnv, Nat.reduceAdd]
  repeat' (first | refine goS ?_ | refine go2 (fun hh => ?_) (fun hh => ?_) | fail)
  all_goals (simp only [resV_def (X := dX i0) Tryz.func151, Tryz.results151]; first | exact J5 | refine J6 ?_)
  all_goals first | (simp [spanB, w64, *]; done) | (simp [spanB, w64, *]; rfl)
 ·cases h
theorem K151 {X : Ctx} (hX : X.intr 151 = some (pureFn sp151)) (sx sy most wide : Int) (h : Heap) : Cl X 151 [.agg [.int .i64 sx, .int .i64 sy], .int .i64 most, .int .i64 wide] h (.ret (.bool (spanB sx sy (w64 (-most)) most wide)) h none) := Cl.intr hX rfl
noncomputable def cA : FuncId → Option (List AV → Heap → Option (AV × Heap))
 | 93 => some (pureFn sp93)
 | 97 => some (pureFn sp97)
 | 190 => some (pureFn sp190)
 | 80 => some (pureFn sp80)
 | 92 => some (pureFn sp92)
 | 252 => some (pureFn sp252)
 | 253 => some (pureFn sp253)
 | 158 => some (pureFn sp158)
 | 174 => some (pureFn sp174)
 | 135 => some (pureFn sp135)
 | 151 => some (pureFn sp151)
 | _ => none
theorem cA_sound : Sound (dX cA) := dX_sound (fun f g h => by
 unfold cA at h
 split at h
 ·cases h; exact F93
 ·cases h; exact F97
 ·cases h; exact F190
 ·cases h; exact F80
 ·cases h; exact F92
 ·cases h; exact F252
 ·cases h; exact F253
 ·cases h; exact F158
 ·cases h; exact F174
 ·cases h; exact F135
 ·cases h; exact F151
 ·cases h)
end Go.AM
namespace Go.AM
open Go Go.Proofs
variable [Keep]
attribute [local irreducible] W WO WO1 WD WQ WT thenQ blockQ endR isRet retK Cl ClR
structure Pt where
 x : Int
 y : Int
 deriving DecidableEq
def ptC : Cd Pt where
 enc p := .agg [.int .i64 p.x, .int .i64 p.y]
 dec a := match a with | .agg [.int .i64 x, .int .i64 y] => some ⟨x, y⟩ | _ => none
 de _ := rfl
 ed a x h := by split at h <;> cases h; rfl
 pur _ := rfl
theorem pts_idx {a : AV} {l : List Pt} (h : slV ptC a = some l) {k : Nat} {p : Pt} (hp : l[k]? = some p) (H : Heap) : indexAddrV Tryz.prog H 22 a (.int .i64 ↑k) = some (.vptr [.int .i64 p.x, .int .i64 p.y]) :=
 (slV_is h).1.idx (x := ptC.enc p) Tryz.underlying22 ty_lay38 (by simp [hp]) rfl
theorem sl_len {α : Type} {c : Cd α} {a : AV} {l : List α} (h : slV c a = some l) : lenS a = some l.length := by rw [(slV_is h).1.len]; simp
theorem sl_out {α : Type} {c : Cd α} {a : AV} {l : List α} (h : slV c a = some l) : outV (some a) = some a := (slV_is h).1.out
theorem sl_pur {α : Type} {c : Cd α} {a : AV} {l : List α} (h : slV c a = some l) : a.pur = true := (slV_is h).1.pur (enc_pur c l)
theorem sl_max {α : Type} {c : Cd α} {a : AV} {l : List α} (h : slV c a = some l) : l.length ≤ maxL := (slV_is h).2
theorem take_next {α : Type} {l : List α} {k : Nat} {p : α} (h : l[k]? = some p) : l.take (k + 1) = l.take k ++ [p] := by
 rw [List.take_add_one, h]; rfl
theorem get_some {α : Type} {l : List α} {k : Nat} (h : k < l.length) : ∃ p, l[k]? = some p := ⟨l[k], by simp [h]⟩
def okPt (far : Int) (p : Pt) : Bool := inB p.x (w64 (-far)) far && inB p.y (w64 (-far)) far
def pointsB (l : List Pt) (least most far : Int) : Bool := l.all (okPt far) && inB l.length least most
theorem points_false {l : List Pt} {k : Nat} {p : Pt} {least most far : Int} (h : l[k]? = some p) (hf : okPt far p = false) : pointsB l least most far = false := by
 have : l.all (okPt far) = false := by
  rw [Bool.eq_false_iff]
  intro h2
  have := List.all_eq_true.1 h2 p (List.mem_of_getElem? h)
  rw [hf] at this
  cases this
 simp [pointsB, this]
def sp28 : List AV → Option AV
 | [a, .int .i64 least, .int .i64 most, .int .i64 far] => (slV ptC a).map fun l => .bool (pointsB l least most far)
 | _ => none
theorem p28 : ∀ args v, sp28 args = some v → v.flat = true := by
 intro args v h
 unfold sp28 at h
 split at h
 ·simp only [Option.map_eq_some_iff] at h; obtain ⟨l, _, rfl⟩ := h; rfl
 ·cases h
set_option maxHeartbeats 2000000 in
theorem F28 : IntrFn Tryz.prog 28 (flatFn sp28) := by
 refine flat_fn (X := dX cA) cA_sound p28 ?_
 intro args v h
 unfold sp28 at h
 split at h
 ·rename_i a least most far
  simp only [Option.map_eq_some_iff] at h
  obtain ⟨l, hl, rfl⟩ := h
  have hlen := sl_len hl
  have hout := sl_out hl
  have hmax := sl_max hl
  refine ClR.walk (c := _) rfl Tryz.func28 rfl (by kernel_rfl) rfl isRet_fail ?_
  simp only [entryEnv, Nat.reduceAdd]
  repeat' (first | refine goS ?_ | (apply U6; exact Z1; exact Z1; (focus (simp only [List.nil_append, List.append_nil]; first | exact K97 rfl _ _ _ _)); simp only [pM, pN, rR, rP]) | refine go2 (fun hh => ?_) (fun hh => ?_) | fail)
  refine W.loopN l.length (fun k F => ∃ e, F = Fr.mk 28 false e .nil emptyHp [] none ∧ e.get 0 = some a ∧ e.get 1 = some (.int .i64 least) ∧ e.get 2 = some (.int .i64 most) ∧ e.get 3 = some (.int .i64 far) ∧ e.get 9 = some (.int .i64 ↑k) ∧ k ≤ l.length ∧ (l.take k).all (okPt far) = true) ?_ ?_
  ·refine ⟨_, rfl, ?_, ?_, ?_, ?_, ?_, ?_, ?_⟩ <;> simp [go_sem, *]
  rintro k F ⟨e, rfl, h0, h1, h2, h3, h9, hk, hall⟩
  by_cases hlt : k < l.length
  ·obtain ⟨p, hp⟩ := get_some hlt
   have hix := pts_idx hl hp
   have hd : decide ((k : Int) < (l.length : Int)) = true := by simpa using hlt
   have hw := wrap_succ hlt hmax
   have hnx := take_next hp
   clear hl
   repeat' (first | refine goS ?_ | (apply U6; exact Z1; exact Z1; (focus (simp only [List.nil_append, List.append_nil]; first | exact K97 rfl _ _ _ _)); simp only [pM, pN, rR, rP]) | refine go2 (fun hh => ?_) (fun hh => ?_) | fail)
   all_goals first
    | (refine ⟨hlt, _, rfl, ?_, ?_, ?_, ?_, ?_, by omega, ?_⟩ <;> first | exact Z2 | simp_all [okPt, w64])
    | ((simp only [resV_def (X := dX cA) Tryz.func28, Tryz.results28]; first | exact J5 | refine J6 ?_); rw [points_false hp (by simp_all [okPt, w64])])
  ·have hd : decide ((k : Int) < (l.length : Int)) = false := by simpa using hlt
   have hkl : k = l.length := by omega
   subst hkl
   rw [List.take_length] at hall
   repeat' (first | refine goS ?_ | (apply U6; exact Z1; exact Z1; (focus (simp only [List.nil_append, List.append_nil]; first | exact K97 rfl _ _ _ _)); simp only [pM, pN, rR, rP]) | refine go2 (fun hh => ?_) (fun hh => ?_) | fail)
   all_goals (simp only [resV_def (X := dX cA) Tryz.func28, Tryz.results28]; first | exact J5 | refine J6 ?_)
   all_goals simp [pointsB, hall]
 ·cases h
end Go.AM
namespace Go.AM
open Go Go.Proofs Go.Shelf Go.Sort Go.RowKit
variable [Keep]
theorem lib_left {P : Program} {f : FuncId} {C : Cfg} {h : Heap} {w : World} {v : AV} {vs : Array Value} (r : WR C h w)
  (hc : Calls P f vs w fun e w' => ∃ u, e = .returned u ∧ VR C v u ∧ w'.os = w.os ∧ w'.tape = w.tape ∧ w'.output = w.output ∧ w.heap.size ≤ w'.heap.size ∧ ∀ β, β < w.heap.size → w'.heap[β]? = w.heap[β]?) (cs : List Frame) :
  Left P f C h w (lone (Frame.enter P f vs .normal) cs w) cs (.ret v h none) := by
 obtain ⟨e, w', fr, ⟨u, rfl, hv, h1, h2, h3, h4, hs⟩, hst, hfn, hlv⟩ := hc cs
 have hcell : ∀ x u, w.cell? x = some u → w'.cell? x = some u := by
  intro x u hx
  have hlt : x.block < w.heap.size := by
   rcases Nat.lt_or_ge x.block w.heap.size with h | h
   ·exact h
   ·simp [World.cell?, Array.getElem?_eq_none h] at hx
  unfold World.cell? at hx ⊢
  rw [hs _ hlt]
  exact hx
 refine ⟨C, w', fr, u, hst, hlv, hfn, hv, ⟨fun x v e => hcell _ _ (r.sig x v e), fun id blk e => ?_, r.inj, r.apart, r.fresh, r.base.on (fun _ _ e => e) (fun x v e => hs _ (WR.sig_lt (F := Fr.mk 0 false .nil .nil h [] none) r e))⟩, ⟨.refl C, h1, h2, h3, h4, fun β hb _ _ => hs β hb, fun _ _ l => .inl l, fun _ _ o => .inr o, fun _ _ _ s => .inl s, Nat.le_refl _⟩⟩
 obtain ⟨L, k1, k2⟩ := r.blk id blk e
 exact ⟨L, k1, k2.same (.refl C) (hs _ k2.lt)⟩
theorem grow_same (w : World) (k : Nat) (os : Array Obj) : (grow (w.drewN k) os).os = w.os ∧ (grow (w.drewN k) os).tape = w.tape ∧ (grow (w.drewN k) os).output = w.output ∧ w.heap.size ≤ (grow (w.drewN k) os).heap.size ∧ ∀ β, β < w.heap.size → (grow (w.drewN k) os).heap[β]? = w.heap[β]? := by
 refine ⟨rfl, rfl, rfl, ?_, fun β hb => ?_⟩
 ·simp [grow, World.drewN]
 ·simp only [grow, World.drewN]
  rw [Array.getElem?_append_left hb]
def digF : Nat → Nat → List UInt8
 | 0, _ => []
 | n + 1, u => if Nat.blt u 10 then [UInt8.ofNat (48 + u)] else digF n (u / 10) ++ [UInt8.ofNat (48 + u % 10)]
theorem digF_ok : ∀ (n u : Nat), u < 10 ^ n → 0 < n → digF n u = Lib.decDigits u := by
 intro n
 induction n with
 | zero => intro u _ h; omega
 | succ n ih =>
  intro u hu _
  rw [Lib.decDigits]
  simp only [digF]
  by_cases h : u < 10
  ·rw [if_pos (by simpa [Nat.blt_eq] using h), dif_pos h]
  ·rw [if_neg (by simpa [Nat.blt_eq] using h), dif_neg h, ih]
   ·rw [Nat.pow_succ] at hu; omega
   ·rcases Nat.eq_zero_or_pos n with rfl | h'
    ·simp at hu; omega
    ·exact h'
def itoaF (n : Int) : List UInt8 := match n with
 | .ofNat u => digF 20 u
 | .negSucc u => 45 :: digF 20 (u + 1)
theorem itoaF_ok (n : Int) (h0 : -9223372036854775808 ≤ n) (h1 : n ≤ 9223372036854775807) : itoaF n = Lib.itoa n := by
 unfold itoaF Lib.itoa
 cases n with
 | ofNat u =>
  have : ¬ (Int.ofNat u < 0) := by simp
  rw [if_neg this]
  have hu : u < 9223372036854775808 := by simp at h1; omega
  exact digF_ok 20 u (by omega) (by omega)
 | negSucc u =>
  have : Int.negSucc u < 0 := Int.negSucc_lt_zero u
  rw [if_pos this]
  have hu : u + 1 ≤ 9223372036854775808 := by omega
  show 45 :: digF 20 (u + 1) = 45 :: Lib.decDigits (u + 1)
  rw [digF_ok 20 (u + 1) (by omega) (by omega)]
def spItoa : List AV → Option AV
 | [.int .i64 n] => if decide (-9223372036854775808 ≤ n) && decide (n ≤ 9223372036854775807) then some (.str (itoaF n)) else none
 | _ => none
def atOnce (spec : List AV → Option AV) : List AV → Heap → Option (AV × Heap) := fun args h => match spec args with | some v => some (v, h) | none => none
def TabK (P : Program) : Prop := ∀ w : World, (∀ x v o, Keep.sig x = some v → Keep.obj x.block = some o → w.heap[x.block]? = some o) → Lib.TabIs P w "internal/strconv.uint64pow10" .u64 Lib.pow10Tab
theorem itoa_intr {P : Program} {ρ : Ren} (L : LaysM.n171 P ρ) (hT : TabK P) (hb : ∃ fn, P.funcs[ρ.f 171]? = some fn ∧ fn.body.isSome = true) : IntrFn P (ρ.f 171) (atOnce spItoa) := by
 intro args h v h' hg C w vs r hv
 refine ⟨hb, fun cs => ?_⟩
 unfold atOnce at hg
 split at hg
 ·rename_i u hsp
  cases hg
  unfold spItoa at hsp
  split at hsp
  ·rename_i n
   split at hsp
   ·rename_i hc
    cases hsp
    simp only [Bool.and_eq_true, decide_eq_true_eq] at hc
    obtain ⟨hs, hi⟩ := hv
    have hvs : vs = #[.int .i64 n] := by
     have h0 : VR C (.int .i64 n) (vs.getD 0 undef) := hi 0 (by simp)
     have hs' : vs.size = 1 := by simpa using hs
     have e : vs = #[vs.getD 0 undef] := by
      apply Array.ext (by simpa using hs')
      intro i hi1 hi2
      have : i = 0 := by simp at hi2; omega
      subst this
      simp [Array.getD, hs']
     generalize vs.getD 0 undef = x at h0 e
     cases h0
     exact e
    subst hvs
    refine lib_left r ((Any.strconv_Itoa L n hc.1 hc.2 w (hT w r.base.2)).mono fun e w' q => ?_) cs
    obtain ⟨rfl, k, os, rfl⟩ := q
    refine ⟨_, rfl, ?_, grow_same w k os⟩
    rw [← itoaF_ok n hc.1 hc.2]
    exact .str _
   ·cases hsp
  ·cases hsp
 ·cases hg
end Go.AM
namespace Go.AM
open Go Go.RowKit
section
variable {P : Program} {H : Type} {enc : TypeId × Value → H} {w : World}
theorem VL.vrs {C : Cfg} {xa : List AV} {vs : List Value} (h : VL C xa vs) : vs.toArray.size = xa.length ∧ ∀ i, i < xa.length → VR C (xa.getD i .junk) (vs.toArray.getD i undef) := by
 refine ⟨by simp [h.len], fun i hi => ?_⟩
 obtain ⟨_, v, hv, hr⟩ := h.get i xa[i] (by simp [hi])
 have hi2 : i < vs.length := by rw [← h.len]; exact hi
 have e1 : xa.getD i .junk = xa[i] := by simp [List.getD, hi]
 have e2 : vs.toArray.getD i undef = v := by
  simp only [Array.getD_eq_getD_getElem?, List.getElem?_toArray, hv, Option.getD_some]
 rw [e1, e2]
 exact hr
theorem openV {r : Reach} {base : Nat} {t : TypeId} {v : Value} {d : DataW H} {p : List MemPlace} (n : Nat) (hpl : plainT P n t = true) (hval : Value.okWide P w r base t v)
  (h : DataW.Trod enc P w 0 (fun _ => true) true t v d p) : ∃ xa, VR ⟨fun _ => none, w.cell?⟩ (asElem (isAggT P t) xa) v ∧ Sh P n t xa := by
 obtain ⟨fuel, hx⟩ := h
 obtain ⟨xa, h1, h2⟩ := opens n t v.cells.toList fuel _ hpl hx
 refine ⟨xa, ?_, h2⟩
 cases n with
 | zero => simp [plainT] at hpl
 | succ n =>
  unfold plainT at hpl
  unfold Value.okWide at hval
  cases hu : P.underlying t with
  | none => rw [hu] at hpl; cases hpl
  | some desc =>
   have plain : isAggT P t = false → (∀ cs, v ≠ .agg cs) → VR ⟨fun _ => none, w.cell?⟩ (asElem (isAggT P t) xa) v := by
    intro ha hv
    have : v.cells.toList = [v] := by
     cases v <;> first | rfl | exact absurd rfl (hv _)
    rw [this] at h1
    cases h1 with
    | cons k1 k2 k3 =>
     cases k3
     rw [ha]
     exact k1
   rw [hu] at hpl hval
   cases desc with
   | bool => exact plain (by simp [isAggT, hu]) (fun cs e => by subst e; simp [Cell.okWide, hu, Cell.ok] at hval)
   | int k => exact plain (by simp [isAggT, hu]) (fun cs e => by subst e; simp [Cell.okWide, hu, Cell.ok] at hval)
   | string => exact plain (by simp [isAggT, hu]) (fun cs e => by subst e; simp [Cell.okWide, hu, Cell.ok] at hval)
   | slice e => exact plain (by simp [isAggT, hu]) (fun cs e => by subst e; simp [Cell.okWide, hu, Cell.ok] at hval)
   | struct fs =>
    obtain ⟨cs, rfl, _, _⟩ := hval
    have ha : isAggT P t = true := by simp [isAggT, hu]
    rw [ha]
    obtain ⟨q1, q2⟩ := VL.vrs h1
    have : (Value.agg cs).cells.toList.toArray = cs := by simp [Value.cells]
    rw [this] at q1 q2
    exact .agg q1 q2 h1.one
   | _ => cases hpl
theorem VRs.cons2 {C : Cfg} {a : AV} {v : Value} {xa : List AV} {vs : List Value} (h : VR C a v) (k : VRs C xa vs.toArray) : VRs C (a :: xa) (v :: vs).toArray :=
 ⟨by simpa using k.1, fun i hi => by
  cases i with
  | zero => exact h
  | succ i =>
   have := k.2 i (by simpa using hi)
   simpa [List.getD, Array.getD_eq_getD_getElem?] using this⟩
theorem map_enc {α : Type} (c : Cd α) : ∀ (es : List AV), (∀ x ∈ es, ∃ y, x = c.enc y) → ∃ l : List α, es = l.map c.enc := by
 intro es
 induction es with
 | nil => intro _; exact ⟨[], rfl⟩
 | cons a es ih =>
  intro h
  obtain ⟨y, rfl⟩ := h a (by simp)
  obtain ⟨l, rfl⟩ := ih (fun x hx => h x (by simp [hx]))
  exact ⟨y :: l, rfl⟩
theorem Sh.slice {α : Type} (c : Cd α) {n : Nat} {t e : TypeId} {xa : List AV} (hu : P.underlying t = some (.slice e)) (he : ∀ xs, Sh P n e xs → ∃ y, asElem (isAggT P e) xs = c.enc y) (h : Sh P (n + 1) t xa) :
  ∃ (a : AV) (l : List α), xa = [a] ∧ isSl a (l.map c.enc) := by
 unfold Sh at h
 rw [hu] at h
 obtain ⟨a, es, rfl, h1, _, h3⟩ := h
 obtain ⟨l, rfl⟩ := map_enc c es (fun x hx => by
  obtain ⟨xs, rfl, k⟩ := h3 x hx
  obtain ⟨y, hy⟩ := he xs k
  exact ⟨y, hy⟩)
 exact ⟨a, l, rfl, h1⟩
theorem Sh.int {n : Nat} {t : TypeId} {k : IntKind} {xa : List AV} (hu : P.underlying t = some (.int k)) (h : Sh P (n + 1) t xa) : ∃ i, xa = [.int k i] ∧ (Lit.int k i).wf = true := by
 unfold Sh at h
 rw [hu] at h
 exact h
theorem Sh.struct {n : Nat} {t : TypeId} {fs : Array Field} {xa : List AV} (hu : P.underlying t = some (.struct fs)) (h : Sh P (n + 1) t xa) : ShF (Sh P n) fs.toList xa := by
 unfold Sh at h
 rw [hu] at h
 exact h
end
variable [Keep]
theorem Ext.below {C C' : Cfg} {h' : Heap} {w w' : World} (e : Ext C emptyHp (fun _ => False) w C' h' (fun _ => False) w') : Below w.heap.size w w' :=
 ⟨e.os, e.tape, e.output, e.size, fun k hk => e.same k hk emptyHp_live id⟩
end Go.AM
namespace Go.AM
open Go Go.ChangeShapes Go.WideShapes Go.ChangeAt Go.RowKit
section
variable {P : Program} {H : Type} {enc : TypeId × Value → H} {W : World}
inductive ArgsOk (P : Program) : List TypeId → List AV → Prop
 | nil : ArgsOk P [] []
 | cons {t : TypeId} {ts : List TypeId} {xs : List AV} {xa : List AV} : Sh P 9 t xs → ArgsOk P ts xa → ArgsOk P (t :: ts) (asElem (isAggT P t) xs :: xa)
theorem openAll {r : Reach} {base : Nat} : ∀ (ts : List TypeId) (vs : List Value) (ds : List (DataW H)) (ps : List MemPlace), DataW.TrodAll enc P W 0 (fun _ => true) true ts vs ds ps → (∀ t ∈ ts, plainT P 9 t = true) →
  (∀ (j : Nat) t v, ts[j]? = some t → vs[j]? = some v → Value.okWide P W r base t v) → ∃ avs, VRs ⟨fun _ => none, W.cell?⟩ avs vs.toArray ∧ ArgsOk P ts avs := by
 intro ts
 induction ts with
 | nil =>
  intro vs ds ps h _ _
  obtain ⟨rfl, _, _⟩ := trodAll_nil h
  exact ⟨[], ⟨rfl, fun i hi => by simp at hi⟩, .nil⟩
 | cons t ts ih =>
  intro vs ds ps h hp hv
  obtain ⟨v, vs', d, ds', p, q, rfl, rfl, rfl, h1, h2⟩ := trodAll_cons h
  obtain ⟨xs, k1, k2⟩ := openV 9 (hp t (by simp)) (hv 0 t v rfl rfl) h1
  obtain ⟨xa, g1, g2⟩ := ih vs' ds' q h2 (fun t' ht' => hp t' (by simp [ht'])) (fun j t' v' e1 e2 => hv (j + 1) t' v' (by simpa using e1) (by simpa using e2))
  exact ⟨_, VRs.cons2 k1 g1, .cons k2 g2⟩
theorem backAll {W' : World} (hl : laidOutB P = true) (hb : Below W.heap.size W W') : ∀ (ts : List TypeId) (vs : List Value) (ds : List (DataW H)) (ps : List MemPlace), DataW.TrodAll enc P W 0 (fun _ => true) true ts vs ds ps →
  (∀ t ∈ ts, P.readableRec t = true ∧ t < P.types.size) → (∀ x ∈ ps, x.block < W.heap.size) → DataW.TrodAll enc P W' 0 (fun b => decide (b < W.heap.size)) true ts vs ds ps := by
 intro ts
 induction ts with
 | nil =>
  intro vs ds ps h _ _
  obtain ⟨rfl, rfl, rfl⟩ := trodAll_nil h
  exact trodAll_mk0
 | cons t ts ih =>
  intro vs ds ps h hp hlt
  obtain ⟨v, vs', d, ds', p, q, rfl, rfl, rfl, h1, h2⟩ := trodAll_cons h
  exact ⟨p, q, Below.trod hl (hp t (by simp)).1 (hp t (by simp)).2 h1 hb (fun x hx => hlt x (by simp [hx])), ih vs' ds' q h2 (fun t' ht' => hp t' (by simp [ht'])) (fun x hx => hlt x (by simp [hx])), rfl⟩
end
end Go.AM
namespace Go.Proofs.YtlhcjccaimmhgaaGreatDoor
open Go Go.AM Go.ChangeShapes Go.WideShapes Go.ChangeAt Go.RowKit
def laidL : List (String × DataW Unit) := [("math/bits.deBruijn32tab", Rows.laid_math_bits_deBruijn32tab), ("math/bits.deBruijn64tab", Rows.laid_math_bits_deBruijn64tab), ("internal/strconv.uint64pow10", Rows.laid_internal_strconv_uint64pow10)]
theorem own : ownKnob Tryz.prog.godebug = none := by kernel_rfl
theorem gPow : Tryz.prog.globalNamed "internal/strconv.uint64pow10" = some 0 := by kernel_rfl
theorem tPow : (Tryz.prog.globals[0]?).map (·.type) = some 294 := by kernel_rfl
theorem uPow : ∃ e, Tryz.prog.underlying 294 = some (.array 20 e) ∧ Tryz.prog.underlying e = some (.int .u64) ∧ Tryz.prog.cellsOf e = 1 := ⟨(match Tryz.prog.underlying 294 with | some (.array _ e) => e | _ => 0), by kernel_rfl, by kernel_rfl, by kernel_rfl⟩
theorem cPow : Tryz.prog.cellsOf 294 = 20 := by kernel_rfl
theorem dPow : Rows.laid_internal_strconv_uint64pow10 (H := Unit) = Lib.tabData .u64 Lib.pow10Tab := by kernel_rfl
theorem laidOut : laidOutB Tryz.prog = true := by kernel_rfl
theorem tabK_of {W : World} (hL : laidMetH Tryz.prog laidL W) : @TabK ⟨W.cell?, fun b => W.heap[b]?⟩ Tryz.prog := by
 rw [MakeChecks.laidMetH_plain _ _ _ (by kernel_rfl)] at hL
 obtain ⟨ps, ⟨_, _, _, _, _, _, _, _, _, _, ⟨_, _, _, _, _, _, _, _, _, _, ⟨g, t, cs, fuel, p, q, hg, ht, hv, hd, _, _⟩, _⟩, _⟩, _, _⟩ := hL
 obtain rfl := Option.some.inj (gPow.symm.trans hg)
 obtain rfl := Option.some.inj (tPow.symm.trans ht)
 obtain ⟨e, u1, u2, u3⟩ := uPow
 rw [dPow] at hd
 have hcs := Lib.cells_of_tab u1 u2 u3 cPow hd
 intro w h
 have hheap : ∃ T fr, W.heap[0]? = some (.cells cs T fr) := by
  unfold World.var? at hv
  rw [gPow] at hv
  simp only [Option.bind_some] at hv
  split at hv
  ·rename_i c T fr hh
   cases hv
   exact ⟨T, fr, hh⟩
  ·cases hv
 obtain ⟨T, fr, hh⟩ := hheap
 have h0 : W.cell? ⟨0, 0, none⟩ = some (.int .u64 1) := by
  have := World.var?_cell hg hv 0
  rw [this]
  have : cs.toList[0]? = some (.int .u64 1) := by rw [hcs]; rfl
  simpa using this
 have hw := h ⟨0, 0, none⟩ _ _ h0 hh
 unfold Lib.TabIs World.var?
 rw [gPow]
 simp only [Option.bind_some, hw]
 rw [← hcs]
theorem lawHolds {f : FuncId} {fn : Func} {s : ChangeSpec} {H : Type} {enc : TypeId × Value → H} (hfn : Tryz.prog.funcs[f]? = some fn) (hres : fn.resultTypes = #[4]) (hvars : s.vars = [])
  (hs : ∀ ds : List (DataW H), ds.length = fn.params.size → s.fn H ds = { results := [.lit (.bool true)], args := ds })
  (hpl : ∀ t ∈ fn.params.toList, plainT Tryz.prog 9 t = true) (hrd : ∀ t ∈ fn.params.toList, Tryz.prog.readableRec t = true ∧ t < Tryz.prog.types.size)
  (law : ∀ [Keep], TabK Tryz.prog → ∀ avs, ArgsOk Tryz.prog fn.params.toList avs → ∃ X, X.P = Tryz.prog ∧ Sound X ∧ ∃ h', Cl X f avs emptyHp (.ret (.bool true) h' none))
  (W : World) (base : Nat) (args : Array Value) (ds gs : List (DataW H)) (before : List MemPlace)
  (hval : ∀ (j : Nat) t v, fn.params[j]? = some t → args[j]? = some v → Value.okWide Tryz.prog W .any base t v)
  (hW : DataW.Whole enc Tryz.prog fn.params.toList s.vars false W args.toList ds gs before) (hL : laidMetH Tryz.prog laidL W) :
  Calls Tryz.prog f args W fun e W' => ∃ v, e = .returned v ∧ s.post enc Tryz.prog fn false true false false W args v W' := by
 have hW' := hW
 obtain ⟨p, q, hA, hV, hpq, _, _⟩ := hW
 rw [hvars] at hV
 obtain ⟨rfl, rfl⟩ := trodVars_none hV
 have hlen : ds.length = fn.params.size := by simpa using (trodAll_length hA).2
 obtain ⟨avs, h1, h2⟩ := openAll fn.params.toList args.toList ds p hA hpl (fun j t v e1 e2 => hval j t v (by simpa using e1) (by simpa using e2))
 letI : Keep := ⟨W.cell?, fun b => W.heap[b]?⟩
 obtain ⟨X, hX, hsound, h', hcl⟩ := law (tabK_of hL) avs h2
 have wr : WR ⟨fun _ => none, W.cell?⟩ emptyHp W := ⟨fun _ _ e => e, fun id blk e => by simp [emptyHp, Heap.get] at e, fun id id' blk blk' L L' e => by simp [emptyHp, Heap.get] at e, fun id blk L x v e => by simp [emptyHp, Heap.get] at e, fun id L e => (by cases e), ⟨fun _ _ e => e, fun x v o _ e => e⟩⟩
 have hc := hsound.calls hcl wr (vs := args) (by simpa using h1)
 rw [hX] at hc
 refine hc.mono fun e W' ⟨C', u, he, hu, _, hext⟩ => ?_
 subst he
 cases hu
 have hbelow := hext.below
 have hlt : ∀ x ∈ p, x.block < W.heap.size := fun x hx => by simpa using hW'.lt x (by rw [hpq]; simp [hx])
 refine ⟨_, rfl, ds, [], before, [], p, [], hW', ?_, ?_, ?_, hbelow.frame _, fun h => by cases h⟩
 ·rw [List.append_nil, hs ds hlen, hres]
  exact trodAll_mk1 (shut_bool Tryz.underlying4 true)
 ·rw [List.append_nil, hs ds hlen]
  exact backAll laidOut hbelow _ _ _ _ hA hrd hlt
 ·rw [List.append_nil, hs ds hlen, hvars]
  rfl
end Go.Proofs.YtlhcjccaimmhgaaGreatDoor
namespace Go.AM
open Go Go.Proofs
variable [Keep]
attribute [local irreducible] W WO WO1 WD WQ WT thenQ blockQ endR isRet retK Cl ClR
def flatL (l : List Pt) : List Int := l.flatMap fun p => [p.x, p.y]
theorem flatL_take {l : List Pt} {k : Nat} {p : Pt} (h : l[k]? = some p) : flatL (l.take (k + 1)) = flatL (l.take k) ++ [p.x, p.y] := by
 rw [take_next h]; simp [flatL]
theorem flatL_len (l : List Pt) : (flatL l).length = 2 * l.length := by
 induction l with
 | nil => rfl
 | cons p l ih => simp only [flatL, List.flatMap_cons, List.length_append, List.length_cons, List.length_nil] at ih ⊢; omega
def sp98 : List AV → Option AV
 | [a] => (slV ptC a).map fun l => slN ((flatL l).map intC.enc)
 | _ => none
theorem slN_pur {l : List AV} (h : ∀ x ∈ l, x.pur = true) : (slN l).pur = true := (slN_is l).pur h
theorem p98 : ∀ args v, sp98 args = some v → v.pur = true := by
 intro args v h
 unfold sp98 at h
 split at h
 ·simp only [Option.map_eq_some_iff] at h; obtain ⟨l, _, rfl⟩ := h; exact slN_pur (enc_pur _ _)
 ·cases h
set_option maxHeartbeats 400000 in
theorem F98 : IntrFn Tryz.prog 98 (pureFn sp98) := by
 refine pure_fn (X := dX cA) cA_sound p98 ?_
 intro args v h
 unfold sp98 at h
 split at h
 ·rename_i a
  simp only [Option.map_eq_some_iff] at h
  obtain ⟨l, hl, rfl⟩ := h
  have hlen := sl_len hl
  have hout := sl_out hl
  have hmax := sl_max hl
  refine ClR.walk (c := _) rfl Tryz.func98 rfl (by kernel_rfl) rfl isRet_fail ?_
  simp only [entryEnv, Nat.reduceAdd]
  repeat' (first | (apply W.drawQ (id := 5) (l1 := [0, 1, 2, 3, 4, 5, 6, 7, 8, 9, 10, 11]) (l2 := [12, 13]); kernel_rfl; kernel_rfl; kernel_rfl; exact Z4) | refine go1 ?_ | refine go2 (fun hh => ?_) (fun hh => ?_) | fail)
  refine W.loopN l.length (fun k F => ∃ e hp u, F = Fr.mk 98 false e .nil hp [] none ∧ Blt hp u 1 ((flatL (l.take k)).map intC.enc) ∧ e.get 0 = some a ∧ e.get 3 = some u ∧ e.get 4 = some (.int .i64 ↑k) ∧ k ≤ l.length) ?_ ?_
  ·refine ⟨_, _, _, rfl, Blt.nil, ?_, ?_, ?_, ?_⟩ <;> simp [go_sem, *]
  rintro k F ⟨e, hp0, u, rfl, hB, h0, h3, h4, hk⟩
  have hbo := hB.out
  by_cases hlt : k < l.length
  ·obtain ⟨p, hp⟩ := get_some hlt
   have hix := pts_idx hl hp
   have hd : decide ((k : Int) < (l.length : Int)) = true := by simpa using hlt
   have hw := wrap_succ hlt hmax
   have hfl := flatL_take hp
   have hll : ((flatL (l.take k)).map intC.enc).length + 2 ≤ most := by
    have := flatL_len (l.take k)
    simp only [List.length_map, List.length_take] at this ⊢
    unfold most; unfold maxL at hmax; omega
   clear hl hp
   repeat' (first | (apply WO1.append (t := 39) (u := 39) (e := 3) (e' := 3) (sz := 1) (tl := []); (focus assumption); exact Z1; exact rfl; (focus exact Z2); (focus exact Z2); (focus exact Z2); (focus (exact ty_row39)); exact Z1; (focus (intro v hv; simp at hv; rcases hv with rfl | rfl <;> rfl)); (focus (simp; simp at *; omega)); (focus (simp)); (intro v' h' hB' ho' hK'; simp only [pM, pN])) | (apply W.drawQ (id := 5) (l1 := [0, 1, 2, 3, 4, 5, 6, 7, 8, 9, 10, 11]) (l2 := [12, 13]); kernel_rfl; kernel_rfl; kernel_rfl; exact Z4) | refine go1 ?_ | refine go2 (fun hh => ?_) (fun hh => ?_) | fail)
   refine ⟨hlt, _, _, v', rfl, ?_, ?_, ?_, ?_, by omega⟩
   ·rw [hfl]; simpa [intC] using hB'
   all_goals exact Z2
  ·have hd : decide ((k : Int) < (l.length : Int)) = false := by simpa using hlt
   have hkl : k = l.length := by omega
   subst hkl
   rw [List.take_length] at hB
   obtain ⟨h', hz, hz2, hz1⟩ := hB.freeze
   repeat' (first | refine goS ?_ | refine go2 (fun hh => ?_) (fun hh => ?_) | fail)
   all_goals (simp only [resV_def (X := dX cA) Tryz.func98, Tryz.results98]; first | exact J5 | refine J6 ?_)
 ·cases h
end Go.AM
namespace Go.AM
open Go Go.Proofs
variable [Keep]
attribute [local irreducible] W WO WO1 WD WQ WT thenQ blockQ endR isRet retK Cl ClR
theorem ints_idx {a : AV} {l : List Int} (h : slV intC a = some l) {k : Nat} {p : Int} (hp : l[k]? = some p) (H : Heap) : indexAddrV Tryz.prog H 39 a (.int .i64 ↑k) = some (.vptr [.int .i64 p]) :=
 (slV_is h).1.idx (x := intC.enc p) Tryz.underlying39 ty_lay3 (by simp [hp]) rfl
theorem K98 {X : Ctx} (hX : X.intr 98 = some (pureFn sp98)) (a : AV) (l : List Pt) (ha : slV ptC a = some l) (h : Heap) : Cl X 98 [a] h (.ret (slN ((flatL l).map intC.enc)) h none) :=
 Cl.intr hX (by simp [pureFn, AV.purL, sl_pur ha, sp98, ha])
theorem view_pur {h : Heap} {a : AV} (hp : a.pur = true) : viewV h a = some a := by
 unfold viewV
 split
 ·simp [AV.pur] at hp
 ·simp [hp]
theorem K28 {X : Ctx} (hX : X.intr 28 = some (flatFn sp28)) (a : AV) (l : List Pt) (least most far : Int) (ha : slV ptC a = some l) (h : Heap) : Cl X 28 [a, .int .i64 least, .int .i64 most, .int .i64 far] h (.ret (.bool (pointsB l least most far)) h none) :=
 Cl.intr hX (by simp [flatFn, viewVs, view_pur (sl_pur ha), view_pur (a := .int .i64 least) rfl, view_pur (a := .int .i64 most) rfl, view_pur (a := .int .i64 far) rfl, sp28, ha])
def sp53 : List AV → Option AV
 | [a, b] => match slV intC a, slV intC b with
  | some l, some r => some (.bool (decide (l = r)))
  | _, _ => none
 | _ => none
theorem p53 : ∀ args v, sp53 args = some v → v.flat = true := by
 intro args v h
 unfold sp53 at h
 split at h
 ·split at h <;> cases h
  rfl
 ·cases h
set_option maxHeartbeats 400000 in
theorem F53 : IntrFn Tryz.prog 53 (flatFn sp53) := by
  refine flat_fn (X := dX cA) cA_sound p53 ?_
  intro args v h
  unfold sp53 at h
  split at h
  · rename_i a b
    split at h
    · rename_i l r hl hr
      cases h
      have hlen := sl_len hl
      have hout := sl_out hl
      have hmax := sl_max hl
      have hlen2 := sl_len hr
      have hout2 := sl_out hr
      refine ClR.walk (c := _) rfl Tryz.func53 rfl (by kernel_rfl) rfl isRet_fail ?_
      simp only [entryEnv, Nat.reduceAdd]
      by_cases hlr : l.length = r.length
      · have hne : ((l.length : Int) != (r.length : Int)) = false := by simp [hlr]
        have HL := Lib.hid hlr
        clear hlr
        repeat' (first | refine goS ?_ | refine go2 (fun hh => ?_) (fun hh => ?_) | fail)
        refine W.loopN l.length (fun k F => ∃ e, F = Fr.mk 53 false e .nil emptyHp [] none ∧ l.take k = r.take k ∧ e.get 0 = some a ∧ e.get 1 = some b ∧ e.get 5 = some (.int .i64 ↑k) ∧ k ≤ l.length) ?_ ?_
        · refine ⟨_, rfl, ?_, ?_, ?_, ?_, ?_⟩ <;> simp [go_sem, *]
        clear hne
        rintro k F ⟨e, rfl, ht, h0, h1, h5, hk⟩
        by_cases hlt : k < l.length
        · obtain ⟨p, hp⟩ := get_some hlt
          obtain ⟨q, hq⟩ := get_some (show k < r.length by have := HL.out; omega)
          have hix := ints_idx hl hp
          have hix2 := ints_idx hr hq
          have hd : decide ((k : Int) < (l.length : Int)) = true := by simpa using hlt
          have hw := wrap_succ hlt hmax
          have hfl := take_next hp
          have hfr := take_next hq
          have hnp : p ≠ q → decide (l = r) = false := fun hne => by
            simp only [decide_eq_false_iff_not]
            intro e
            subst e
            rw [hp] at hq
            exact hne (Option.some.inj hq)
          clear hl hr hp hq
          repeat' (first | (apply W.drawQ (id := 6) (l1 := [0, 1, 2, 3, 4, 5, 6, 7, 8]) (l2 := []); kernel_rfl; kernel_rfl; kernel_rfl; exact Z4) | refine go1 ?_ | refine go2 (fun hh => ?_) (fun hh => ?_) | fail)
          all_goals first
            | (refine ⟨hlt, _, rfl, ?_, ?_, ?_, ?_, by omega⟩
               · have : p = q := by simpa using hh
                 rw [hfl, hfr, ht, this]
               all_goals exact Z2)
            | ((simp only [resV_def (X := dX cA) Tryz.func53, Tryz.results53]; first | exact J5 | refine J6 ?_)
               rw [hnp (by simpa using hh)])
        · have hd : decide ((k : Int) < (l.length : Int)) = false := by simpa using hlt
          have hkl : k = l.length := by omega
          subst hkl
          rw [List.take_length, HL.out, List.take_length] at ht
          have HT := Lib.hid ht
          clear ht
          repeat' (first | refine goS ?_ | refine go2 (fun hh => ?_) (fun hh => ?_) | fail)
          all_goals (simp only [resV_def (X := dX cA) Tryz.func53, Tryz.results53]; first | exact J5 | refine J6 ?_)
          simp [HT.out]
      · have hne : ((l.length : Int) != (r.length : Int)) = true := by
          rw [bne_iff_ne]; omega
        have hnl : decide (l = r) = false := by
          simp only [decide_eq_false_iff_not]; intro e; exact hlr (by rw [e])
        clear hlr
        repeat' (first | refine goS ?_ | refine go2 (fun hh => ?_) (fun hh => ?_) | fail)
        all_goals (simp only [resV_def (X := dX cA) Tryz.func53, Tryz.results53]; first | exact J5 | refine J6 ?_)
    · cases h
  · cases h
theorem K53 {X : Ctx} (hX : X.intr 53 = some (flatFn sp53)) (a b : AV) (l r : List Int) (ha : slV intC a = some l) (hb : slV intC b = some r) (h : Heap) : Cl X 53 [a, b] h (.ret (.bool (decide (l = r))) h none) :=
 Cl.intr hX (by simp [flatFn, viewVs, view_pur (sl_pur ha), view_pur (sl_pur hb), sp53, ha, hb])
def quarter (p : Pt) : Pt := ⟨w64 (-p.y), p.x⟩
def iter {α : Type} (f : α → α) : Nat → α → α
 | 0, x => x
 | n + 1, x => f (iter f n x)
def turnR (p : Pt) (turn : Int) : Pt := iter quarter (turn.tmod 4).toNat (if turn ≥ 4 then ⟨w64 (-p.x), p.y⟩ else p)
def sp81 : List AV → Option AV
 | [.agg [.int .i64 x, .int .i64 y], .int .i64 turn] => some (ptC.enc (turnR ⟨x, y⟩ turn))
 | _ => none
theorem p81 : ∀ args v, sp81 args = some v → v.pur = true := by
 intro args v h
 unfold sp81 at h
 split at h
 ·cases h; rfl
 ·cases h
set_option maxHeartbeats 400000 in
theorem F81 : IntrFn Tryz.prog 81 (pureFn sp81) := by
 refine pure_fn (X := dX cA) cA_sound p81 ?_
 intro args v h
 unfold sp81 at h
 split at h
 ·cases h
  rename_i x y turn
  refine ClR.walk (c := _) rfl Tryz.func81 rfl (by kernel_rfl) rfl isRet_fail ?_
  simp only [entryEnv, Nat.reduceAdd]
  repeat' (first | refine goS ?_ | refine go2 (fun hh => ?_) (fun hh => ?_) | fail)
  all_goals
   refine W.loopN (turn.tmod 4).toNat (fun k F => ∃ e lm, F = Fr.mk 81 false e lm emptyHp [] none ∧ lm.get 2 = some (0, [.int .i64 (iter quarter k (if turn ≥ 4 then ⟨w64 (-x), y⟩ else ⟨x, y⟩)).x, .int .i64 (iter quarter k (if turn ≥ 4 then ⟨w64 (-x), y⟩ else ⟨x, y⟩)).y]) ∧ lm.get 4 = some (0, [.int .i64 0, .int .i64 0]) ∧
    e.get 1 = some (.int .i64 turn) ∧ e.get 2 = some (.lptr 2 0 0) ∧ e.get 4 = some (.lptr 4 0 0) ∧ e.get 5 = some (.int .i64 ↑k) ∧ k ≤ (turn.tmod 4).toNat) ?_ ?_
   ·refine ⟨_, _, rfl, ?_, ?_, ?_, ?_, ?_, ?_, ?_⟩ <;> first | exact Z2 | (simp only [iter, w64]; (first | rw [if_pos (by simpa using hh)] | rw [if_neg (by simpa using hh)]); simp only [go_sem, *, Nat.reduceLT, Int.reduceEq, Int.reduceBEq, Int.reduceLE, Int.reduceLT, Nat.reduceAdd, Nat.reduceBEq, Nat.reduceEqDiff, reduceIte, Nat.reduceLeDiff, Nat.reduceMul, Nat.reduceSub, reduceCtorEq]) | simp
   rintro k F ⟨e, lm, rfl, hl2, hl4, h1, h2, h4, h5, hk⟩
   clear hh
   generalize hP : iter quarter k (if turn ≥ 4 then (⟨w64 (-x), y⟩ : Pt) else ⟨x, y⟩) = P at hl2
   have HP := Lib.hid hP
   clear hP
   by_cases hlt : k < (turn.tmod 4).toNat
   ·have hd : decide ((k : Int) < turn.tmod 4) = true := by simp; omega
    have hw : IntKind.i64.wrap (↑k + 1) = ↑(k + 1) := by
     have := Int.tmod_lt_of_pos turn (show (0 : Int) < 4 by decide)
     rw [wrap_small (by omega) (by omega)]; simp
    repeat' (first | refine goS ?_ | refine go2 (fun hh => ?_) (fun hh => ?_) | fail)
    refine ⟨hlt, _, _, rfl, ?_, ?_, ?_, ?_, ?_, ?_, by omega⟩
    ·have hq := HP.out
     simp only [iter]
     rw [hq]
     simp only [quarter, w64, go_sem, *, Nat.reduceLT, Int.reduceEq, Int.reduceBEq, Int.reduceLE, Int.reduceLT, Nat.reduceAdd, Nat.reduceBEq, Nat.reduceEqDiff, reduceIte, Nat.reduceLeDiff, Nat.reduceMul, Nat.reduceSub, reduceCtorEq]
    all_goals exact Z2
   ·have hd : decide ((k : Int) < turn.tmod 4) = false := by simp; omega
    repeat' (first | refine goS ?_ | refine go2 (fun hh => ?_) (fun hh => ?_) | fail)
    all_goals (simp only [resV_def (X := dX cA) Tryz.func81, Tryz.results81]; first | exact J5 | refine J6 ?_)
    have hkl : k = (turn.tmod 4).toNat := by omega
    have := HP.out
    rw [hkl] at this
    simp only [turnR, this]
    rfl
 ·cases h
theorem K81 {X : Ctx} (hX : X.intr 81 = some (pureFn sp81)) (p : Pt) (turn : Int) (h : Heap) : Cl X 81 [.agg [.int .i64 p.x, .int .i64 p.y], .int .i64 turn] h (.ret (.agg [.int .i64 (turnR p turn).x, .int .i64 (turnR p turn).y]) h none) := Cl.intr hX rfl
end Go.AM
namespace Go.AM
open Go Go.Proofs
variable [Keep]
attribute [local irreducible] W WO WO1 WD WQ WT thenQ blockQ endR isRet retK Cl ClR
noncomputable def cF : FuncId → Option (List AV → Heap → Option (AV × Heap))
 | 93 => some (pureFn sp93)
 | 97 => some (pureFn sp97)
 | 28 => some (flatFn sp28)
 | 98 => some (pureFn sp98)
 | 53 => some (flatFn sp53)
 | 81 => some (pureFn sp81)
 | 252 => some (pureFn sp252)
 | 253 => some (pureFn sp253)
 | _ => none
theorem cF_sound : Sound (dX cF) := dX_sound (fun f g h => by
 unfold cF at h
 split at h
 ·cases h; exact F93
 ·cases h; exact F97
 ·cases h; exact F28
 ·cases h; exact F98
 ·cases h; exact F53
 ·cases h; exact F81
 ·cases h; exact F252
 ·cases h; exact F253
 ·cases h)
def sp29 : List AV → Option AV
 | [a, b] => match slV ptC a, slV ptC b with
  | some l, some r => if l.length ≤ 32768 ∧ r.length ≤ 32768 then some (.bool (decide (l = r))) else none
  | _, _ => none
 | _ => none
theorem flatL_inj : ∀ {l r : List Pt}, flatL l = flatL r → l = r := by
 intro l
 induction l with
 | nil =>
  intro r h
  cases r with
  | nil => rfl
  | cons q r => simp [flatL] at h
 | cons p l ih =>
  intro r h
  cases r with
  | nil => simp [flatL] at h
  | cons q r =>
   simp only [flatL, List.flatMap_cons, List.cons_append, List.nil_append, List.cons.injEq] at h
   obtain ⟨h1, h2, h3⟩ := h
   rw [ih h3]
   cases p; cases q
   simp only at h1 h2
   rw [h1, h2]
theorem p29 : ∀ args v, sp29 args = some v → v.flat = true := by
 intro args v h
 unfold sp29 at h
 split at h
 ·split at h
  ·split at h <;> cases h
   rfl
  ·cases h
 ·cases h
theorem F29 : IntrFn Tryz.prog 29 (flatFn sp29) := by
 refine flat_fn (X := dX cF) cF_sound p29 ?_
 intro args v h
 unfold sp29 at h
 split at h
 ·rename_i a b
  split at h
  ·rename_i l r hl hr
   split at h
   ·cases h
    rename_i hb
    have hout := sl_out hl
    have hout2 := sl_out hr
    have hf1 : slV intC (slN ((flatL l).map intC.enc)) = some (flatL l) := slV_slN (by rw [flatL_len]; unfold maxL; omega)
    have hf2 : slV intC (slN ((flatL r).map intC.enc)) = some (flatL r) := slV_slN (by rw [flatL_len]; unfold maxL; omega)
    have ho1 := sl_out hf1
    have ho2 := sl_out hf2
    have HL := Lib.hid hl
    have HR := Lib.hid hr
    have H1 := Lib.hid hf1
    have H2 := Lib.hid hf2
    clear hl hr hf1 hf2
    refine ClR.walk (c := _) rfl Tryz.func29 rfl (by kernel_rfl) rfl isRet_fail ?_
    simp only [entryEnv, Nat.reduceAdd]
    repeat' (first | refine goS ?_ | (apply U6; exact Z1; exact Z1; (focus (simp only [List.nil_append, List.append_nil]; first | exact K98 rfl _ _ (by first | exact HL.out | exact HR.out) _ | exact K53 rfl _ _ _ _ H1.out H2.out _)); simp only [pM, pN, rR, rP]) | refine go2 (fun hh => ?_) (fun hh => ?_) | fail)
    all_goals (simp only [resV_def (X := dX cF) Tryz.func29, Tryz.results29]; first | exact J5 | refine J6 ?_)
    have : (flatL l = flatL r) = (l = r) := propext ⟨flatL_inj, fun e => by rw [e]⟩
    simp only [this]
   ·cases h
  ·cases h
 ·cases h
def sp30 : List AV → Option AV
 | [a, .int .i64 turn] => (slV ptC a).map fun l => slN ((l.map (turnR · turn)).map ptC.enc)
 | _ => none
theorem p30 : ∀ args v, sp30 args = some v → v.pur = true := by
 intro args v h
 unfold sp30 at h
 split at h
 ·simp only [Option.map_eq_some_iff] at h; obtain ⟨l, _, rfl⟩ := h; exact slN_pur (enc_pur _ _)
 ·cases h
set_option maxHeartbeats 400000 in
theorem F30 : IntrFn Tryz.prog 30 (pureFn sp30) := by
 refine pure_fn (X := dX cF) cF_sound p30 ?_
 intro args v h
 unfold sp30 at h
 split at h
 ·rename_i a turn
  simp only [Option.map_eq_some_iff] at h
  obtain ⟨l, hl, rfl⟩ := h
  have hlen := sl_len hl
  have hout := sl_out hl
  have hmax := sl_max hl
  refine ClR.walk (c := _) rfl Tryz.func30 rfl (by kernel_rfl) rfl isRet_fail ?_
  simp only [entryEnv, Nat.reduceAdd]
  repeat' (first | refine goS ?_ | refine go2 (fun hh => ?_) (fun hh => ?_) | fail)
  refine W.loopN l.length (fun k F => ∃ e hp u, F = Fr.mk 30 false e .nil hp [] none ∧ Blt hp u 2 (((l.take k).map (turnR · turn)).map ptC.enc) ∧ e.get 0 = some a ∧ e.get 1 = some (.int .i64 turn) ∧ e.get 5 = some u ∧ e.get 6 = some (.int .i64 ↑k) ∧ k ≤ l.length) ?_ ?_
  ·refine ⟨_, _, _, rfl, Blt.nil, ?_, ?_, ?_, ?_, ?_⟩ <;> simp [go_sem, *]
  rintro k F ⟨e, hp0, u, rfl, hB, h0, h1, h5, h6, hk⟩
  have hbo := hB.out
  by_cases hlt : k < l.length
  ·obtain ⟨p, hp⟩ := get_some hlt
   have hix := pts_idx hl hp
   have hd : decide ((k : Int) < (l.length : Int)) = true := by simpa using hlt
   have hw := wrap_succ hlt hmax
   have hnx := take_next hp
   have hll : ((((l.take k).map (turnR · turn)).map ptC.enc)).length + 1 ≤ most := by
    simp only [List.length_map, List.length_take]
    unfold most; unfold maxL at hmax; omega
   clear hl hp
   repeat' (first | (apply WO1.append (t := 22) (u := 22) (e := 38) (e' := 38) (sz := 2) (tl := []); (focus assumption); exact Z1; exact rfl; (focus exact Z2); (focus exact Z2); (focus exact Z2); (focus (exact ty_row22)); exact Z1; (focus (intro v hv; simp at hv; rcases hv with rfl | rfl <;> rfl)); (focus (simp; simp at *; omega)); (focus (simp)); (intro v' h' hB' ho' hK'; simp only [pM, pN])) | refine go1 ?_ | (apply U6; exact Z1; exact Z1; (focus (simp only [List.nil_append, List.append_nil]; first | exact K81 rfl _ _ _)); simp only [pM, pN, rR, rP]) | refine go2 (fun hh => ?_) (fun hh => ?_) | fail)
   refine ⟨hlt, _, _, v', rfl, ?_, ?_, ?_, ?_, ?_, by omega⟩
   ·rw [hnx]; simpa [ptC] using hB'
   all_goals exact Z2
  ·have hd : decide ((k : Int) < (l.length : Int)) = false := by simpa using hlt
   have hkl : k = l.length := by omega
   subst hkl
   rw [List.take_length] at hB
   obtain ⟨h', hz, hz2, hz1⟩ := hB.freeze
   repeat' (first | refine goS ?_ | refine go2 (fun hh => ?_) (fun hh => ?_) | fail)
   all_goals (simp only [resV_def (X := dX cF) Tryz.func30, Tryz.results30]; first | exact J5 | refine J6 ?_)
 ·cases h
def ofV (n : Int) : AV := if n < 4 then .iface 217 (.int .i64 n) else .iface 215 (.int .i64 (w64 (n - 4)))
def sp96 : List AV → Option AV
 | [.int .i64 n] => some (ofV n)
 | _ => none
theorem p96 : ∀ args v, sp96 args = some v → v.pur = true := by
 intro args v h
 unfold sp96 at h
 split at h
 ·cases h; unfold ofV; split <;> rfl
 ·cases h
theorem F96 : IntrFn Tryz.prog 96 (pureFn sp96) := by
 refine pure_fn (X := dX cF) cF_sound p96 ?_
 intro args v h
 unfold sp96 at h
 split at h
 ·cases h
  rename_i n
  refine ClR.walk (c := _) rfl Tryz.func96 rfl (by kernel_rfl) rfl isRet_fail ?_
  simp only [entryEnv, Nat.reduceAdd]
  repeat' (first | refine goS ?_ | refine go2 (fun hh => ?_) (fun hh => ?_) | fail)
  all_goals (simp only [resV_def (X := dX cF) Tryz.func96, Tryz.results96]; first | exact J5 | refine J6 ?_)
  all_goals (unfold ofV w64; first | rw [if_pos (by simpa using hh)] | rw [if_neg (by simpa using hh)])
 ·cases h
theorem K96 {X : Ctx} (hX : X.intr 96 = some (pureFn sp96)) (n : Int) (h : Heap) : Cl X 96 [.int .i64 n] h (.ret (ofV n) h none) := Cl.intr hX rfl
def flipX (p : Pt) : Pt := ⟨w64 (-p.x), p.y⟩
def turnedV (t : TypeId) (n : Int) (p : Pt) : Option Pt := if n ≤ 65536 then (if t = 217 then some (iter quarter n.toNat p) else if t = 215 then some (iter quarter n.toNat (flipX p)) else none) else none
def sp95 : List AV → Option AV
 | [.iface t (.int .i64 n), .agg [.int .i64 x, .int .i64 y]] => (turnedV t n ⟨x, y⟩).map ptC.enc
 | _ => none
theorem p95 : ∀ args v, sp95 args = some v → v.pur = true := by
 intro args v h
 unfold sp95 at h
 split at h
 ·simp only [Option.map_eq_some_iff] at h; obtain ⟨l, _, rfl⟩ := h; rfl
 ·cases h
theorem m217 : methodOf Tryz.prog 217 "nacre/drill.quarters" = some 253 := by kernel_rfl
theorem m215 : methodOf Tryz.prog 215 "nacre/drill.quarters" = some 252 := by kernel_rfl
end Go.AM
namespace Go.AM
open Go Go.Proofs
variable [Keep]
attribute [local irreducible] W WO WO1 WD WQ WT thenQ blockQ endR isRet retK Cl ClR
set_option maxHeartbeats 400000 in
theorem F95 : IntrFn Tryz.prog 95 (pureFn sp95) := by
 refine pure_fn (X := dX cF) cF_sound p95 ?_
 intro args v h
 unfold sp95 at h
 split at h
 ·rename_i t n x y
  simp only [Option.map_eq_some_iff] at h
  obtain ⟨q, hq, rfl⟩ := h
  unfold turnedV at hq
  split at hq
  ·rename_i hn
   have main : ∀ p1 : Pt, q = iter quarter n.toNat p1 → ∀ (F : Fr) (Q : Out → Prop), True := fun _ _ _ _ => trivial
   obtain ⟨t', ht', p1, hq1, hp1⟩ : ∃ t' : TypeId, t = t' ∧ ∃ p1 : Pt, q = iter quarter n.toNat p1 ∧ (t' = 217 ∧ p1 = ⟨x, y⟩ ∨ t' = 215 ∧ p1 = flipX ⟨x, y⟩) := by
    split at hq
    ·rename_i e; cases hq; exact ⟨217, e, _, rfl, .inl ⟨rfl, rfl⟩⟩
    ·split at hq
     ·rename_i e; cases hq; exact ⟨215, e, _, rfl, .inr ⟨rfl, rfl⟩⟩
     ·cases hq
   subst ht'
   clear hq main
   have HQ := Lib.hid hq1
   clear hq1
   refine ClR.walk (c := _) rfl Tryz.func95 rfl (by kernel_rfl) rfl isRet_fail ?_
   simp only [entryEnv, Nat.reduceAdd]
   rcases hp1 with ⟨rfl, hp⟩ | ⟨rfl, hp⟩
   all_goals
    have HP := Lib.hid hp
    clear hp
    repeat' (first | (apply WO1.invoke; exact Z1; exact Z1; (focus (first | exact m217 | exact m215)); (focus (first | exact K253 rfl _ _ | exact K252 rfl _ _)); simp only [pM, pN, rR, rP]) | refine go1 ?_ | refine go2 (fun hh => ?_) (fun hh => ?_) | fail)
    refine W.loopN n.toNat (fun k F => ∃ e lm, F = Fr.mk 95 false e lm emptyHp [] none ∧ lm.get 3 = some (0, [.int .i64 (iter quarter k p1).x, .int .i64 (iter quarter k p1).y]) ∧ lm.get 4 = some (0, [.int .i64 0, .int .i64 0]) ∧
     e.get 3 = some (.lptr 3 0 0) ∧ e.get 4 = some (.lptr 4 0 0) ∧ e.get 14 = some (.int .i64 n) ∧ e.get 15 = some (.int .i64 ↑k) ∧ k ≤ n.toNat) ?_ ?_
    ·refine ⟨_, _, rfl, ?_, ?_, ?_, ?_, ?_, ?_, ?_⟩ <;> first | exact Z2 | (simp [go_sem, *]; done) | (have hp := HP.out; simp only [iter, hp, flipX, w64, go_sem, *, Nat.reduceLT, Int.reduceEq, Int.reduceBEq, Int.reduceLE, Int.reduceLT, Nat.reduceAdd, Nat.reduceBEq, Nat.reduceEqDiff, reduceIte, Nat.reduceLeDiff, Nat.reduceMul, Nat.reduceSub, reduceCtorEq])
    rintro k F ⟨e, lm, rfl, hl3, hl4, h3, h4, h14, h15, hk⟩
    generalize hPP : iter quarter k p1 = P at hl3
    have HPP := Lib.hid hPP
    clear hPP
    by_cases hlt : k < n.toNat
    ·have hd : decide ((k : Int) < n) = true := by simp; omega
     have hw : IntKind.i64.wrap (↑k + 1) = ↑(k + 1) := by
      rw [wrap_small (by omega) (by omega)]; simp
     repeat' (first | refine goS ?_ | refine go2 (fun hh => ?_) (fun hh => ?_) | fail)
     refine ⟨hlt, _, _, rfl, ?_, ?_, ?_, ?_, ?_, ?_, by omega⟩
     ·have hq := HPP.out
      simp only [iter]
      rw [hq]
      simp only [quarter, w64, go_sem, *, Nat.reduceLT, Int.reduceEq, Int.reduceBEq, Int.reduceLE, Int.reduceLT, Nat.reduceAdd, Nat.reduceBEq, Nat.reduceEqDiff, reduceIte, Nat.reduceLeDiff, Nat.reduceMul, Nat.reduceSub, reduceCtorEq]
     all_goals exact Z2
    ·have hd : decide ((k : Int) < n) = false := by simp; omega
     repeat' (first | refine goS ?_ | refine go2 (fun hh => ?_) (fun hh => ?_) | fail)
     all_goals (simp only [resV_def (X := dX cF) Tryz.func95, Tryz.results95]; first | exact J5 | refine J6 ?_)
     have hkl : k = n.toNat := by omega
     have := HPP.out
     rw [hkl] at this
     rw [HQ.out, this]
     rfl
  ·cases hq
 ·cases h
theorem K95 {X : Ctx} (hX : X.intr 95 = some (pureFn sp95)) (t : TypeId) (n : Int) (p q : Pt) (hq : turnedV t n p = some q) (h : Heap) : Cl X 95 [.iface t (.int .i64 n), .agg [.int .i64 p.x, .int .i64 p.y]] h (.ret (.agg [.int .i64 q.x, .int .i64 q.y]) h none) :=
 Cl.intr hX (by simp [pureFn, AV.purL, AV.pur, sp95, hq, ptC])
def sp149 : List AV → Option AV
 | [.agg [.int .i64 x, .int .i64 y], .int .i64 far] => some (.bool (okPt far ⟨x, y⟩))
 | _ => none
theorem p149 : ∀ args v, sp149 args = some v → v.flat = true := by
 intro args v h
 unfold sp149 at h
 split at h
 ·cases h; rfl
 ·cases h
theorem F149 : IntrFn Tryz.prog 149 (pureFn sp149) := by
 refine pure_fn (X := dX cF) cF_sound (fun a v h => by have := p149 a v h; cases v <;> first | rfl | (simp [AV.flat] at this; done) | (unfold sp149 at h; split at h <;> cases h)) ?_
 intro args v h
 unfold sp149 at h
 split at h
 ·cases h
  rename_i x y far
  refine ClR.walk (c := _) rfl Tryz.func149 rfl (by kernel_rfl) rfl isRet_fail ?_
  simp only [entryEnv, Nat.reduceAdd]
  repeat' (first | refine goS ?_ | (apply U6; exact Z1; exact Z1; (focus (simp only [List.nil_append, List.append_nil]; first | exact K93 rfl _ _ _ _)); simp only [pM, pN, rR, rP]) | refine go2 (fun hh => ?_) (fun hh => ?_) | fail)
  all_goals (simp only [resV_def (X := dX cF) Tryz.func149, Tryz.results149]; first | exact J5 | refine J6 ?_)
  all_goals simp [okPt, w64, *]
 ·cases h
theorem K149 {X : Ctx} (hX : X.intr 149 = some (pureFn sp149)) (p : Pt) (far : Int) (h : Heap) : Cl X 149 [.agg [.int .i64 p.x, .int .i64 p.y], .int .i64 far] h (.ret (.bool (okPt far p)) h none) := Cl.intr hX rfl
def isR (r0 : COut) (r : COut) : Prop := r = r0
theorem ClR.cl {X : Ctx} {f : FuncId} {args : List AV} {h : Heap} {r : COut} (q : ClR X f args h (isR r)) : Cl X f args h r := by
 unfold ClR at q
 obtain ⟨r', h1, h2⟩ := q
 rw [show r' = r from h2] at h1
 exact h1
def idxOf {α : Type} (pb : α → Bool) (l : List α) : Int := match l.findIdx? pb with | some i => i | none => -1
theorem idxOf_at {α : Type} {pb : α → Bool} {l : List α} {k : Nat} {p : α} (h1 : (l.take k).all (fun x => !pb x) = true) (hp : l[k]? = some p) (h2 : pb p = true) : idxOf pb l = k := by
 have hk : k < l.length := by
  rcases Nat.lt_or_ge k l.length with h' | h'
  ·exact h'
  ·rw [List.getElem?_eq_none h'] at hp; cases hp
 have : l.findIdx? pb = some k := by
  rw [List.findIdx?_eq_some_iff_getElem]
  refine ⟨hk, ?_, fun j hj => ?_⟩
  ·rw [List.getElem?_eq_getElem hk] at hp
   rw [Option.some.inj hp]; exact h2
  ·have := List.all_eq_true.1 h1 l[j] (by rw [List.mem_take_iff_getElem]; exact ⟨j, by omega, rfl⟩)
   simpa using this
 simp [idxOf, this]
theorem idxOf_none {α : Type} {pb : α → Bool} {l : List α} (h1 : l.all (fun x => !pb x) = true) : idxOf pb l = -1 := by
 have : l.findIdx? pb = none := by
  rw [List.findIdx?_eq_none_iff]
  intro x hx
  have := List.all_eq_true.1 h1 x hx
  simpa using this
 simp [idxOf, this]
theorem idxOf_any {α : Type} (pb : α → Bool) (l : List α) : decide (idxOf pb l ≥ 0) = l.any pb := by
 unfold idxOf
 cases h : l.findIdx? pb with
 | none =>
  rw [List.findIdx?_eq_none_iff] at h
  have : l.any pb = false := by
   rw [List.any_eq_false]
   intro x hx
   simp [h x hx]
  rw [this]
  simp
 | some i =>
  rw [List.findIdx?_eq_some_iff_getElem] at h
  obtain ⟨hi, h1, _⟩ := h
  have : l.any pb = true := List.any_eq_true.2 ⟨l[i], List.getElem_mem hi, h1⟩
  rw [this]
  simp
set_option maxHeartbeats 400000 in
theorem C187 (c : FuncId → Option (List AV → Heap → Option (AV × Heap))) (hc : c 187 = none) (a : AV) (l : List Pt) (ha : slV ptC a = some l) (g : FuncId) (first capt : List AV) (pb : Pt → Bool) (h : Heap)
    (hcall : ∀ p : Pt, p ∈ l → Cl (dX c) g ((first ++ [ptC.enc p]) ++ capt) h (.ret (.bool (pb p)) h none)) : Cl (dX c) 187 [a, .func (.func g) first capt] h (.ret (.int .i64 (idxOf pb l)) h none) := by
  refine ClR.cl ?_
  have hlen := sl_len ha
  have hout := sl_out ha
  have hmax := sl_max ha
  refine ClR.walk (c := _) hc Tryz.func187 rfl (by kernel_rfl) rfl (fun e => by cases e) ?_
  simp only [entryEnv, Nat.reduceAdd]
  repeat' (first | refine goS ?_ | refine go2 (fun hh => ?_) (fun hh => ?_) | fail)
  refine W.loopN l.length (fun k F => ∃ e, F = Fr.mk 187 false e .nil h [] none ∧ (l.take k).all (fun x => !pb x) = true ∧ e.get 0 = some a ∧ e.get 1 = some (.func (.func g) first capt) ∧ e.get 7 = some (.int .i64 ↑l.length) ∧ e.get 8 = some (.int .i64 ↑k) ∧ k ≤ l.length) ?_ ?_
  · refine ⟨_, rfl, ?_, ?_, ?_, ?_, ?_, ?_⟩ <;> simp [go_sem, *]
  rintro k F ⟨e, rfl, hall, h0, h1, h7, h8, hk⟩
  have HA := Lib.hid hall
  clear hall
  by_cases hlt : k < l.length
  · obtain ⟨p, hp⟩ := get_some hlt
    have hix := pts_idx ha hp
    have hcl := hcall p (List.mem_of_getElem? hp)
    have hd : decide ((k : Int) < (l.length : Int)) = true := by simpa using hlt
    have hw := wrap_succ hlt hmax
    have hnx := take_next hp
    have HI : pb p = true → idxOf pb l = k := idxOf_at HA.out hp
    have HH := Lib.hid HI
    clear ha hcall hp HI
    repeat' (first | (apply U6; exact Z1; exact Z1; (focus (exact hcl)); simp only [pM, pN, rR, rP]) | refine go1 ?_ | refine go2 (fun hh => ?_) (fun hh => ?_) | fail)
    all_goals first
      | (refine ⟨hlt, _, rfl, ?_, ?_, ?_, ?_, ?_, by omega⟩
         · have := HA.out
           rw [hnx]; simp_all
         all_goals exact Z2)
      | ((simp only [resV_def (X := dX c) Tryz.func187, Tryz.results187]; first | exact J5 | refine J6 ?_)
         have := HH.out hh
         simp [isR, frzRes, dX_frz, dFrz, this])
  · have hd : decide ((k : Int) < (l.length : Int)) = false := by simpa using hlt
    have hkl : k = l.length := by omega
    have h2 := HA.out
    rw [hkl, List.take_length] at h2
    have HI := Lib.hid (idxOf_none h2)
    clear ha hcall h2 hkl
    repeat' (first | refine goS ?_ | refine go2 (fun hh => ?_) (fun hh => ?_) | fail)
    all_goals (simp only [resV_def (X := dX c) Tryz.func187, Tryz.results187]; first | exact J5 | refine J6 ?_)
    have := HI.out
    simp [isR, frzRes, dX_frz, dFrz, this]
theorem C147 (c : FuncId → Option (List AV → Heap → Option (AV × Heap))) (hc : c 187 = none) (hc2 : c 147 = none) (a : AV) (l : List Pt) (ha : slV ptC a = some l) (g : FuncId) (first capt : List AV) (pb : Pt → Bool) (h : Heap)
  (hcall : ∀ p : Pt, p ∈ l → Cl (dX c) g ((first ++ [ptC.enc p]) ++ capt) h (.ret (.bool (pb p)) h none)) : Cl (dX c) 147 [a, .func (.func g) first capt] h (.ret (.bool (l.any pb)) h none) := by
 refine ClR.cl ?_
 have hcl := C187 c hc a l ha g first capt pb h hcall
 have hout := sl_out ha
 have hb := idxOf_any pb l
 clear ha hcall
 refine ClR.walk (c := _) hc2 Tryz.func147 rfl (by kernel_rfl) rfl (fun e => by cases e) ?_
 simp only [entryEnv, Nat.reduceAdd]
 repeat' (first | (apply U6; exact Z1; exact Z1; (focus (exact hcl)); simp only [pM, pN, rR, rP]) | refine go1 ?_ | refine go2 (fun hh => ?_) (fun hh => ?_) | fail)
 all_goals (simp only [resV_def (X := dX c) Tryz.func147, Tryz.results147]; first | exact J5 | refine J6 ?_)
 simp [isR, frzRes, dX_frz, dFrz, hb]
end Go.AM
namespace Go.AM
open Go Go.Proofs
variable [Keep]
attribute [local irreducible] W WO WO1 WD WQ WT thenQ blockQ endR isRet retK Cl ClR
noncomputable def cH : FuncId → Option (List AV → Heap → Option (AV × Heap))
 | 93 => some (pureFn sp93)
 | 95 => some (pureFn sp95)
 | 96 => some (pureFn sp96)
 | 149 => some (pureFn sp149)
 | _ => none
theorem cH_sound : Sound (dX cH) := dX_sound (fun f g h => by
 unfold cH at h
 split at h
 ·cases h; exact F93
 ·cases h; exact F95
 ·cases h; exact F96
 ·cases h; exact F149
 ·cases h)
def allB (l : List Pt) (least far : Int) : Bool := inB l.length least 4 && !l.any fun p => !okPt far p
def sp94 : List AV → Option AV
 | [a, .int .i64 least, .int .i64 far] => (slV ptC a).map fun l => .bool (allB l least far)
 | _ => none
theorem p94 : ∀ args v, sp94 args = some v → v.flat = true := by
 intro args v h
 unfold sp94 at h
 split at h
 ·simp only [Option.map_eq_some_iff] at h; obtain ⟨l, _, rfl⟩ := h; rfl
 ·cases h
theorem C148 (far : Int) (p : Pt) (id : Nat) (hp : Heap) (hg : hp.get id = some (.var [.int .i64 far])) : Cl (dX cH) 148 ([] ++ [ptC.enc p] ++ [.ptr id 0]) hp (.ret (.bool (!okPt far p)) hp none) := by
 refine ClR.cl ?_
 refine ClR.walk (c := _) rfl Tryz.func148 rfl (by kernel_rfl) rfl (fun e => by cases e) ?_
 simp only [List.nil_append, List.cons_append, ptC, entryEnv, Nat.reduceAdd]
 repeat' (first | refine goS ?_ | (apply U6; exact Z1; exact Z1; (focus (simp only [List.nil_append, List.append_nil]; first | exact K149 rfl _ _ _)); simp only [pM, pN, rR, rP]) | refine go2 (fun hh => ?_) (fun hh => ?_) | fail)
 all_goals (simp only [resV_def (X := dX cH) Tryz.func148, Tryz.results148]; first | exact J5 | refine J6 ?_)
 simp [isR]
theorem F94 : IntrFn Tryz.prog 94 (flatFn sp94) := by
 refine flat_fn (X := dX cH) cH_sound p94 ?_
 intro args v h
 unfold sp94 at h
 split at h
 ·rename_i a least far
  simp only [Option.map_eq_some_iff] at h
  obtain ⟨l, hl, rfl⟩ := h
  have hlen := sl_len hl
  have hout := sl_out hl
  have hcon : ∀ (n : Nat) (m : Mp Blk) (id : Nat), (Heap.mk n m).get id = some (.var [.int .i64 far]) → Cl (dX cH) 147 [a, .func (.func 148) [] [.ptr id 0]] (Heap.mk n m) (.ret (.bool (l.any fun p => !okPt far p)) (Heap.mk n m) none) :=
   fun n m id hg => C147 cH rfl rfl a l hl 148 [] [.ptr id 0] (fun p => !okPt far p) _ (fun p _ => C148 far p id _ hg)
  have HC := Lib.hid hcon
  clear hl hcon
  refine ClR.walk (c := _) rfl Tryz.func94 rfl (by kernel_rfl) rfl isRet_fail ?_
  simp only [entryEnv, Nat.reduceAdd, emptyHp]
  repeat' (first | refine goS ?_ | (apply U6; exact Z1; exact Z1; (focus (simp only [List.nil_append, List.append_nil]; first | exact K93 rfl _ _ _ _ | exact HC.out _ _ _ (by simp only [go_sem, *, Nat.reduceLT, Int.reduceEq, Int.reduceBEq, Int.reduceLE, Int.reduceLT, Nat.reduceAdd, Nat.reduceBEq, Nat.reduceEqDiff, reduceIte, Nat.reduceLeDiff, Nat.reduceMul, Nat.reduceSub, reduceCtorEq]))); simp only [pM, pN, rR, rP]) | refine go2 (fun hh => ?_) (fun hh => ?_) | fail)
  all_goals (simp only [resV_def (X := dX cH) Tryz.func94, Tryz.results94]; first | exact J5 | refine J6 ?_)
  all_goals simp [allB, *]
 ·cases h
theorem K94 {X : Ctx} (hX : X.intr 94 = some (flatFn sp94)) (a : AV) (l : List Pt) (least far : Int) (ha : slV ptC a = some l) (h : Heap) : Cl X 94 [a, .int .i64 least, .int .i64 far] h (.ret (.bool (allB l least far)) h none) :=
 Cl.intr hX (by simp [flatFn, viewVs, view_pur (sl_pur ha), view_pur (a := .int .i64 least) rfl, view_pur (a := .int .i64 far) rfl, sp94, ha])
end Go.AM
namespace Go.AM
open Go Go.Proofs
variable [Keep]
attribute [local irreducible] W WO WO1 WD WQ WT thenQ blockQ endR isRet retK Cl ClR
noncomputable def cI : FuncId → Option (List AV → Heap → Option (AV × Heap))
 | 93 => some (pureFn sp93)
 | 94 => some (flatFn sp94)
 | 95 => some (pureFn sp95)
 | 96 => some (pureFn sp96)
 | 97 => some (pureFn sp97)
 | _ => none
theorem cI_sound : Sound (dX cI) := dX_sound (fun f g h => by
 unfold cI at h
 split at h
 ·cases h; exact F93
 ·cases h; exact F94
 ·cases h; exact F95
 ·cases h; exact F96
 ·cases h; exact F97
 ·cases h)
def sp27 : List AV → Option AV
 | [.int .i64 n] => some (.bool (inB n 0 7))
 | _ => none
theorem F27 : IntrFn Tryz.prog 27 (pureFn sp27) := by
 refine pure_fn (X := dX cI) cI_sound (fun a v h => by unfold sp27 at h; split at h <;> cases h; rfl) ?_
 intro args v h
 unfold sp27 at h
 split at h
 ·cases h
  refine ClR.walk (c := _) rfl Tryz.func27 rfl (by kernel_rfl) rfl isRet_fail ?_
  simp only [entryEnv, Nat.reduceAdd]
  repeat' (first | refine goS ?_ | (apply U6; exact Z1; exact Z1; (focus (simp only [List.nil_append, List.append_nil]; first | exact K97 rfl _ _ _ _)); simp only [pM, pN, rR, rP]) | refine go2 (fun hh => ?_) (fun hh => ?_) | fail)
  all_goals (simp only [resV_def (X := dX cI) Tryz.func27, Tryz.results27]; first | exact J5 | refine J6 ?_)
 ·cases h
def turnP (turn : Int) (p : Pt) : Pt := if turn < 4 then iter quarter turn.toNat p else iter quarter (w64 (turn - 4)).toNat (flipX p)
def turnF (l : List Pt) (turn : Int) : AV := if inB turn 0 7 && allB l 0 80 then .tuple [slN ((l.map (turnP turn)).map ptC.enc), .int .i64 0] else .tuple [.nilslice, .int .i64 2]
def sp26 : List AV → Option AV
 | [a, .int .i64 turn] => (slV ptC a).map fun l => turnF l turn
 | _ => none
theorem p26 : ∀ args v, sp26 args = some v → v.pur = true := by
 intro args v h
 unfold sp26 at h
 split at h
 ·simp only [Option.map_eq_some_iff] at h; obtain ⟨l, _, rfl⟩ := h
  unfold turnF
  split
  ·simp only [AV.pur, AV.purL, Bool.and_true]; exact slN_pur (enc_pur ptC _)
  ·rfl
 ·cases h
theorem of_turned {turn : Int} (h : inB turn 0 7 = true) (p : Pt) : ∃ t n, ofV turn = .iface t (.int .i64 n) ∧ turnedV t n p = some (turnP turn p) := by
 simp only [inB, Bool.and_eq_true, decide_eq_true_eq] at h
 by_cases h4 : turn < 4
 ·refine ⟨217, turn, by simp [ofV, h4], ?_⟩
  unfold turnedV turnP
  rw [if_pos (by omega), if_pos rfl, if_pos h4]
 ·have hw : w64 (turn - 4) = turn - 4 := wrap_small (by omega) (by omega)
  refine ⟨215, turn - 4, by simp [ofV, h4, hw], ?_⟩
  unfold turnedV turnP
  rw [if_pos (by omega), if_neg (by decide), if_pos rfl, if_neg h4, hw]
set_option maxHeartbeats 400000 in
theorem F26 : IntrFn Tryz.prog 26 (pureFn sp26) := by
 refine pure_fn (X := dX cI) cI_sound p26 ?_
 intro args v h
 unfold sp26 at h
 split at h
 ·rename_i a turn
  simp only [Option.map_eq_some_iff] at h
  obtain ⟨l, hl, rfl⟩ := h
  have hlen := sl_len hl
  have hout := sl_out hl
  have hmax := sl_max hl
  have HL := Lib.hid hl
  have HF := Lib.hid (show turnF l turn = turnF l turn from rfl)
  clear hl
  refine ClR.walk (c := _) rfl Tryz.func26 rfl (by kernel_rfl) rfl isRet_fail ?_
  simp only [entryEnv, Nat.reduceAdd]
  by_cases hin : inB turn 0 7 = true
  ·by_cases hal : allB l 0 80 = true
   ·have hres : turnF l turn = .tuple [slN ((l.map (turnP turn)).map ptC.enc), .int .i64 0] := by simp [turnF, hin, hal]
    rw [hres]
    repeat' (first | refine goS ?_ | (apply U6; exact Z1; exact Z1; (focus (simp only [List.nil_append, List.append_nil]; first | exact K93 rfl _ _ _ _ | exact K94 rfl _ _ _ _ HL.out _)); simp only [pM, pN, rR, rP]) | refine go2 (fun hh => ?_) (fun hh => ?_) | fail)
    refine W.loopN l.length (fun k F => ∃ e lm hp u, F = Fr.mk 26 false e lm hp [] none ∧ Blt hp u 2 (((l.take k).map (turnP turn)).map ptC.enc) ∧ e.get 0 = some a ∧ e.get 1 = some (.int .i64 turn) ∧ e.get 6 = some u ∧ e.get 17 = some a ∧ e.get 18 = some (.int .i64 ↑l.length) ∧ e.get 19 = some (.int .i64 ↑k) ∧ k ≤ l.length) ?_ ?_
    ·refine ⟨_, _, _, _, rfl, Blt.nil, ?_, ?_, ?_, ?_, ?_, ?_, ?_⟩ <;> simp [go_sem, *]
    rintro k F ⟨e, lm, hp0, u, rfl, hB, h0, h1, h6, h17, h18, h19, hk⟩
    have hbo := hB.out
    by_cases hlt : k < l.length
    ·obtain ⟨p, hp⟩ := get_some hlt
     have hix := pts_idx HL.out hp
     have hd : decide ((k : Int) < (l.length : Int)) = true := by simpa using hlt
     have hw := wrap_succ hlt hmax
     have hnx := take_next hp
     have hll : ((((l.take k).map (turnP turn)).map ptC.enc)).length + 1 ≤ most := by
      simp only [List.length_map, List.length_take]
      unfold most; unfold maxL at hmax; omega
     obtain ⟨t, n, ho, HT⟩ := of_turned hin p
     clear hp hin hal hres
     repeat' (first | (apply WO1.append (t := 22) (u := 22) (e := 38) (e' := 38) (sz := 2) (tl := []); (focus assumption); exact Z1; exact rfl; (focus exact Z2); (focus exact Z2); (focus exact Z2); (focus (exact ty_row22)); exact Z1; (focus (intro v hv; simp at hv; rcases hv with rfl | rfl <;> rfl)); (focus (simp; simp at *; omega)); (focus (simp)); (intro v' h' hB' ho' hK'; simp only [pM, pN])) | (apply W.drawQ (id := 7) (l1 := [0, 1, 2, 3, 4, 5]) (l2 := [6, 7]); kernel_rfl; kernel_rfl; kernel_rfl; exact Z4) | refine go1 ?_ | (apply U6; exact Z1; exact Z1; (focus (simp only [List.nil_append, List.append_nil]; first | exact K96 rfl _ _ | exact K95 rfl _ _ _ _ HT _)); simp only [pM, pN, rR, rP]) | refine go2 (fun hh => ?_) (fun hh => ?_) | fail)
     refine ⟨hlt, _, _, _, v', rfl, ?_, ?_, ?_, ?_, ?_, ?_, ?_, by omega⟩
     ·rw [hnx]; simpa [ptC] using hB'
     all_goals exact Z2
    ·have hd : decide ((k : Int) < (l.length : Int)) = false := by simpa using hlt
     have hkl : k = l.length := by omega
     subst hkl
     rw [List.take_length] at hB
     obtain ⟨h', hz, hz2, hz1⟩ := hB.freeze
     clear hres
     repeat' (first | refine goS ?_ | refine go2 (fun hh => ?_) (fun hh => ?_) | fail)
     all_goals (simp only [resV_def (X := dX cI) Tryz.func26, Tryz.results26]; first | exact J5 | refine J6 ?_)
   ·have hal : allB l 0 80 = false := by simpa using hal
    have hres : turnF l turn = .tuple [.nilslice, .int .i64 2] := by simp [turnF, hal]
    rw [hres]
    clear hres
    repeat' (first | refine goS ?_ | (apply U6; exact Z1; exact Z1; (focus (simp only [List.nil_append, List.append_nil]; first | exact K93 rfl _ _ _ _ | exact K94 rfl _ _ _ _ HL.out _)); simp only [pM, pN, rR, rP]) | refine go2 (fun hh => ?_) (fun hh => ?_) | fail)
    all_goals (simp only [resV_def (X := dX cI) Tryz.func26, Tryz.results26]; first | exact J5 | refine J6 ?_)
  ·have hin : inB turn 0 7 = false := by simpa using hin
   have hres : turnF l turn = .tuple [.nilslice, .int .i64 2] := by simp [turnF, hin]
   rw [hres]
   clear hres
   repeat' (first | refine goS ?_ | (apply U6; exact Z1; exact Z1; (focus (simp only [List.nil_append, List.append_nil]; first | exact K93 rfl _ _ _ _ | exact K94 rfl _ _ _ _ HL.out _)); simp only [pM, pN, rR, rP]) | refine go2 (fun hh => ?_) (fun hh => ?_) | fail)
   all_goals (simp only [resV_def (X := dX cI) Tryz.func26, Tryz.results26]; first | exact J5 | refine J6 ?_)
 ·cases h
end Go.AM
namespace Go.AM
open Go Go.Proofs
variable [Keep]
attribute [local irreducible] W WO WO1 WD WQ WT thenQ blockQ endR isRet retK Cl ClR
structure Sp where
 lo : Int
 hi : Int
 deriving DecidableEq
def spC : Cd Sp where
 enc p := .agg [.int .i64 p.lo, .int .i64 p.hi]
 dec a := match a with | .agg [.int .i64 x, .int .i64 y] => some ⟨x, y⟩ | _ => none
 de _ := rfl
 ed a x h := by split at h <;> cases h; rfl
 pur _ := rfl
theorem sps_idx {a : AV} {l : List Sp} (h : slV spC a = some l) {k : Nat} {p : Sp} (hp : l[k]? = some p) (H : Heap) : indexAddrV Tryz.prog H 146 a (.int .i64 ↑k) = some (.vptr [.int .i64 p.lo, .int .i64 p.hi]) :=
 (slV_is h).1.idx (x := spC.enc p) Tryz.underlying146 ty_lay48 (by simp [hp]) rfl
def interS (a b : Sp) : Sp := ⟨maxV a.lo b.lo, minV a.hi b.hi⟩
def comR (blank : Int) (s : Sp) (l : List Sp) (h : Heap) : COut :=
 if (l.foldl interS s).lo > (l.foldl interS s).hi then .pan (.iface 223 (.agg [.int .i64 blank])) h none else .ret (.agg [.int .i64 (l.foldl interS s).lo, .int .i64 (l.foldl interS s).hi]) h none
set_option maxHeartbeats 400000 in
theorem C191 (c : FuncId → Option (List AV → Heap → Option (AV × Heap))) (hc : c 191 = none) (blank : Int) (s : Sp) (a : AV) (l : List Sp) (ha : slV spC a = some l) (h : Heap) :
  Cl (dX c) 191 [.int .i64 blank, .agg [.int .i64 s.lo, .int .i64 s.hi], a] h (comR blank s l h) := by
 refine ClR.cl ?_
 have hlen := sl_len ha
 have hout := sl_out ha
 have hmax := sl_max ha
 have hne : comR blank s l h ≠ .fail := by unfold comR; split <;> (intro e; cases e)
 refine ClR.walk (c := _) hc Tryz.func191 rfl (by kernel_rfl) rfl (fun e => hne e.symm) ?_
 clear hne
 simp only [entryEnv, Nat.reduceAdd]
 repeat' (first | (apply WO1.panic; exact rfl; (focus (intro cl rd; simp only [go_sem, *, Nat.reduceLT, Int.reduceEq, Int.reduceBEq, Int.reduceLE, Int.reduceLT, Nat.reduceAdd, Nat.reduceBEq, Nat.reduceEqDiff, reduceIte, Nat.reduceLeDiff, Nat.reduceMul, Nat.reduceSub, reduceCtorEq, efV, Fr.panicE]; with_reducible rfl)); simp only [tP, bP, eP, true_and]) | refine go1 ?_ | refine go2 (fun hh => ?_) (fun hh => ?_) | fail)
 refine W.loopN l.length (fun k F => ∃ e lm, F = Fr.mk 191 false e lm h [] none ∧ lm.get 7 = some (0, [.int .i64 ((l.take k).foldl interS s).lo, .int .i64 ((l.take k).foldl interS s).hi]) ∧ lm.get 6 = some (0, [.int .i64 0, .int .i64 0]) ∧
  e.get 0 = some (.int .i64 blank) ∧ e.get 6 = some (.lptr 6 0 0) ∧ e.get 7 = some (.lptr 7 0 0) ∧ e.get 11 = some a ∧ e.get 12 = some (.int .i64 ↑l.length) ∧ e.get 13 = some (.int .i64 ↑k) ∧ k ≤ l.length) ?_ ?_
 ·refine ⟨_, _, rfl, ?_, ?_, ?_, ?_, ?_, ?_, ?_, ?_, ?_⟩ <;> simp [go_sem, *]
 rintro k F ⟨e, lm, rfl, hl7, hl6, h0, h6, h7, h11, h12, h13, hk⟩
 generalize hP : (l.take k).foldl interS s = P at hl7
 have HP := Lib.hid hP
 clear hP
 by_cases hlt : k < l.length
 ·obtain ⟨p, hp⟩ := get_some hlt
  have hix := sps_idx ha hp
  have hd : decide ((k : Int) < (l.length : Int)) = true := by simpa using hlt
  have hw := wrap_succ hlt hmax
  have hnx := take_next hp
  have HN : (l.take (k + 1)).foldl interS s = interS P p := by rw [hnx, List.foldl_append, HP.out]; rfl
  have HNX := Lib.hid HN
  clear ha hp hnx HN
  repeat' (first | (apply WO1.panic; exact rfl; (focus (intro cl rd; simp only [go_sem, *, Nat.reduceLT, Int.reduceEq, Int.reduceBEq, Int.reduceLE, Int.reduceLT, Nat.reduceAdd, Nat.reduceBEq, Nat.reduceEqDiff, reduceIte, Nat.reduceLeDiff, Nat.reduceMul, Nat.reduceSub, reduceCtorEq, efV, Fr.panicE]; with_reducible rfl)); simp only [tP, bP, eP, true_and]) | refine go1 ?_ | refine go2 (fun hh => ?_) (fun hh => ?_) | fail)
  refine ⟨hlt, _, _, rfl, ?_, ?_, ?_, ?_, ?_, ?_, ?_, ?_, by omega⟩
  ·rw [HNX.out]; simp only [interS, go_sem, *, Nat.reduceLT, Int.reduceEq, Int.reduceBEq, Int.reduceLE, Int.reduceLT, Nat.reduceAdd, Nat.reduceBEq, Nat.reduceEqDiff, reduceIte, Nat.reduceLeDiff, Nat.reduceMul, Nat.reduceSub, reduceCtorEq]
  all_goals exact Z2
 ·have hd : decide ((k : Int) < (l.length : Int)) = false := by simpa using hlt
  have hkl : k = l.length := by omega
  have hfo : l.foldl interS s = P := by have := HP.out; rw [hkl, List.take_length] at this; exact this
  have HFO := Lib.hid hfo
  clear hkl hfo ha
  repeat' (first | (apply WO1.panic; exact rfl; (focus (intro cl rd; simp only [go_sem, *, Nat.reduceLT, Int.reduceEq, Int.reduceBEq, Int.reduceLE, Int.reduceLT, Nat.reduceAdd, Nat.reduceBEq, Nat.reduceEqDiff, reduceIte, Nat.reduceLeDiff, Nat.reduceMul, Nat.reduceSub, reduceCtorEq, efV, Fr.panicE]; with_reducible rfl)); simp only [tP, bP, eP, true_and]) | refine go1 ?_ | refine go2 (fun hh => ?_) (fun hh => ?_) | fail)
  all_goals first
   | ((simp only [resV_def (X := dX c) Tryz.func191, Tryz.results191]; first | exact J5 | refine J6 ?_); have hfo := HFO.out; simp only [decide_eq_false_iff_not] at hh; simp [isR, comR, hfo, frzRes, dX_frz, dFrz, hh])
   | (have hfo := HFO.out; simp only [decide_eq_true_eq] at hh; simp [isR, comR, hfo, hh])
end Go.AM
namespace Go.AM
open Go Go.Proofs
variable [Keep]
attribute [local irreducible] W WO WO1 WD WQ WT thenQ blockQ endR isRet retK Cl ClR
structure Lim where
 b : Int
 lo : Int
 hi : Int
def limC : Cd Lim where
 enc p := .agg [.int .i64 p.b, .int .i64 p.lo, .int .i64 p.hi]
 dec a := match a with | .agg [.int .i64 x, .int .i64 y, .int .i64 z] => some ⟨x, y, z⟩ | _ => none
 de _ := rfl
 ed a x h := by split at h <;> cases h; rfl
 pur _ := rfl
structure Ax where
 chuck : Sp
 wear : Sp
 limits : List Lim
def Lim.sp (m : Lim) : Sp := ⟨m.lo, m.hi⟩
def empS (s : Sp) : Bool := decide (s.lo > s.hi)
def limS (b : Int) : List Lim → Sp → Option Sp
 | [], s => some s
 | m :: r, s => if m.b == b then (if empS (interS s m.sp) then none else limS b r (interS s m.sp)) else limS b r s
def nxtS (ax : Ax) (p : Sp) : Sp := ⟨w64 (p.lo + ax.wear.lo), w64 (p.hi + ax.wear.hi)⟩
def prvS (ax : Ax) (p : Sp) : Sp := ⟨w64 (p.lo - ax.wear.hi), w64 (p.hi - ax.wear.lo)⟩
def startS (ax : Ax) (out : List Sp) (k : Nat) : Sp := if k = 0 then ax.chuck else nxtS ax (out.getD (k - 1) ⟨0, 0⟩)
def fwdS (ax : Ax) : Nat → Option (List Sp)
 | 0 => some []
 | k + 1 => match fwdS ax k with
  | none => none
  | some out => match limS k ax.limits (startS ax out k) with
   | none => none
   | some s => some (out ++ [s])
def bwdS (ax : Ax) : Nat → List Sp → Option (List Sp)
 | 0, out => some out
 | n + 1, out => if empS (interS (out.getD n ⟨0, 0⟩) (prvS ax (out.getD (n + 1) ⟨0, 0⟩))) then none else bwdS ax n (out.set n (interS (out.getD n ⟨0, 0⟩) (prvS ax (out.getD (n + 1) ⟨0, 0⟩))))
def boundsS (ax : Ax) : Option (List Sp) := match fwdS ax 13 with | none => none | some out => bwdS ax 12 out
theorem fwdS_len (ax : Ax) : ∀ (k : Nat) (out : List Sp), fwdS ax k = some out → out.length = k := by
 intro k
 induction k with
 | zero => intro out h; simp [fwdS] at h; subst h; rfl
 | succ k ih =>
  intro out h
  simp only [fwdS] at h
  split at h
  ·cases h
  ·rename_i o ho
   split at h
   ·cases h
   ·cases h; simp [ih o ho]
theorem fwdS_stop (ax : Ax) (k : Nat) (h : fwdS ax k = none) : ∀ j, fwdS ax (k + j) = none := by
 intro j
 induction j with
 | zero => exact h
 | succ j ih =>
  show fwdS ax ((k + j) + 1) = none
  simp only [fwdS, ih]
theorem bounds_none (ax : Ax) {k : Nat} {out : List Sp} (hk : k < 13) (ho : fwdS ax k = some out) (hl : limS k ax.limits (startS ax out k) = none) : boundsS ax = none := by
 have : fwdS ax (k + 1) = none := by simp only [fwdS, ho, hl]
 have := fwdS_stop ax _ this (12 - k)
 rw [show k + 1 + (12 - k) = 13 from by omega] at this
 simp only [boundsS, this]
structure RdL (h : Heap) (v : AV) (l : List Lim) : Prop where
 len : lenS v = some l.length
 out : outV (some v) = some v
 max : l.length ≤ maxL
 one : v.cells = [v]
 tup : isTuple v = false
 get : ∀ (k : Nat) (m : Lim), l[k]? = some m → ∀ hp : Heap, (∀ id, id < h.next → hp.get id = h.get id) → ∃ ptr, indexAddrV Tryz.prog hp 226 v (.int .i64 ↑k) = some ptr ∧ ∀ f rnd e lm df up, (Fr.mk f rnd e lm hp df up).mem ptr = some ([.int .i64 m.b, .int .i64 m.lo, .int .i64 m.hi], 0)
def isBnd (ax : Ax) (h : Heap) (r : COut) : Prop := ∃ h', HExt h h' ∧ match boundsS ax with
 | some out => r = .ret (slN (out.map spC.enc)) h' none
 | none => ∃ b : Int, r = .pan (.iface 223 (.agg [.int .i64 b])) h' none
theorem isBnd_fail {ax : Ax} {h : Heap} : ¬ isBnd ax h .fail := by
 rintro ⟨h', _, q⟩
 split at q
 ·cases q
 ·obtain ⟨b, e⟩ := q; cases e
theorem isBnd_pan {ax : Ax} {h hp : Heap} {b : Int} (e : boundsS ax = none) (hx : h.next ≤ hp.next ∧ ∀ id, id < h.next → hp.get id = h.get id) : isBnd ax h (.pan (.iface 223 (.agg [.int .i64 b])) hp none) := ⟨hp, hx, by rw [e]; exact ⟨b, rfl⟩⟩
theorem limS_cons (b : Int) (m : Lim) (r : List Lim) (s : Sp) : limS b (m :: r) s = if m.b == b then (if empS (interS s m.sp) then none else limS b r (interS s m.sp)) else limS b r s := rfl
theorem limS_nil (b : Int) (s : Sp) : limS b [] s = some s := rfl
theorem comR_pan {b : Int} {s p : Sp} {h : Heap} (he : empS (interS s p) = true) : comR b s [p] h = .pan (.iface 223 (.agg [.int .i64 b])) h none := if_pos (by simpa [empS] using he)
theorem comR_ret {b : Int} {s p : Sp} {h : Heap} (he : empS (interS s p) = false) : comR b s [p] h = .ret (.agg [.int .i64 (interS s p).lo, .int .i64 (interS s p).hi]) h none := if_neg (by simpa [empS] using he)
theorem bwdS_succ (ax : Ax) (n : Nat) (out : List Sp) : bwdS ax (n + 1) out = if empS (interS (out.getD n ⟨0, 0⟩) (prvS ax (out.getD (n + 1) ⟨0, 0⟩))) then none else bwdS ax n (out.set n (interS (out.getD n ⟨0, 0⟩) (prvS ax (out.getD (n + 1) ⟨0, 0⟩)))) := rfl
theorem boundsS_def (ax : Ax) : boundsS ax = match fwdS ax 13 with | none => none | some out => bwdS ax 12 out := rfl
theorem isBnd_ret {ax : Ax} {h hp : Heap} {out : List Sp} (e : boundsS ax = some out) (hs : slN (out.map spC.enc) = .vslice (out.map spC.enc)) (hx : h.next ≤ hp.next ∧ ∀ id, id < h.next → hp.get id = h.get id) : isBnd ax h (.ret (.vslice (out.map spC.enc)) hp none) := ⟨hp, hx, by rw [e]; simp only; rw [hs]⟩
attribute [local irreducible] isBnd boundsS fwdS limS
set_option maxHeartbeats 1600000 in
theorem C157 (c : FuncId → Option (List AV → Heap → Option (AV × Heap))) (hc : c 157 = none) (hc2 : c 191 = none) (ax : Ax) (v : AV) (h : Heap) (hv : RdL h v ax.limits) :
  ClR (dX c) 157 [.agg [.int .i64 ax.chuck.lo, .int .i64 ax.chuck.hi, .int .i64 ax.wear.lo, .int .i64 ax.wear.hi, v]] h (isBnd ax h) := by
 have hlen := hv.len
 have hout := hv.out
 have hmax := hv.max
 have hone := hv.one
 have htup := hv.tup
 have HV := Lib.hid hv
 clear hv
 refine ClR.walk (c := _) hc Tryz.func157 rfl (by kernel_rfl) rfl isBnd_fail ?_
 simp only [entryEnv, Nat.reduceAdd]
 repeat' (first | (apply W.drawQ (id := 7) (l1 := [0, 1, 2, 3, 4, 5, 6, 7, 8, 9, 10, 11, 12, 13, 14, 15, 16, 17, 18, 19, 20]) (l2 := [21]); kernel_rfl; kernel_rfl; kernel_rfl; exact Z4) | (apply W.drawQ (id := 20) (l1 := [0, 1, 2, 3, 4, 5, 6, 7, 8, 9, 10, 11, 12, 13, 14, 15, 16, 17, 18, 19, 20, 21, 22]) (l2 := [23]); kernel_rfl; kernel_rfl; kernel_rfl; exact Z4) | refine go1 ?_ | refine go2 (fun hh => ?_) (fun hh => ?_) | fail)
 refine W.loopN 13 (fun k F => ∃ e lm hp u out, F = Fr.mk 157 false e lm hp [] none ∧ fwdS ax k = some out ∧ BltN h.next hp u 2 (out.map spC.enc) ∧ (h.next ≤ hp.next ∧ ∀ id, id < h.next → hp.get id = h.get id) ∧
  lm.get 1 = some (0, [.int .i64 ax.chuck.lo, .int .i64 ax.chuck.hi, .int .i64 ax.wear.lo, .int .i64 ax.wear.hi, v]) ∧ e.get 1 = some (.lptr 1 0 0) ∧ e.get 3 = some u ∧ e.get 10 = some (.int .i64 ↑k) ∧ k ≤ 13) ?_ ?_
 ·refine ⟨_, _, _, _, [], rfl, ?_, BltN.nil, ⟨Nat.le_refl _, fun _ _ => rfl⟩, ?_, ?_, ?_, ?_, ?_⟩ <;> first | exact Z2 | simp [fwdS, go_sem, *, Nat.reduceLT, Int.reduceEq, Int.reduceBEq, Int.reduceLE, Int.reduceLT, Nat.reduceAdd, Nat.reduceBEq, Nat.reduceEqDiff, reduceIte, Nat.reduceLeDiff, Nat.reduceMul, Nat.reduceSub, reduceCtorEq]
 rintro k F ⟨e, lm, hp, u, out, rfl, hf, hB, hX, hl1, h1, h3, h10, hk⟩
 have hol := fwdS_len ax k out hf
 have hbo := hB.blt.out
 by_cases hlt : k < 13
 ·have hd : decide ((k : Int) < 13) = true := by simp; omega
  have HF := Lib.hid hf
  have HOL := Lib.hid hol
  clear hf
  have hst : ∃ s0 : Sp, startS ax out k = s0 ∧ (k = 0 ∧ s0 = ax.chuck ∨ k ≠ 0 ∧ ∃ pv, out[k - 1]? = some pv ∧ s0 = nxtS ax pv) := by
   by_cases hk0 : k = 0
   ·exact ⟨_, rfl, .inl ⟨hk0, by simp [startS, hk0]⟩⟩
   ·obtain ⟨pv, hpv⟩ := get_some (show k - 1 < out.length by omega)
    exact ⟨_, rfl, .inr ⟨hk0, pv, hpv, by simp [startS, hk0, List.getD, hpv]⟩⟩
  obtain ⟨s0, hs0, hcase⟩ := hst
  have HS := Lib.hid hs0
  clear hs0
  have hnx : fwdS ax (k + 1) = match limS k ax.limits s0 with | none => none | some s => some (out ++ [s]) := by
   simp only [fwdS, HF.out, HS.out]
  have HNX := Lib.hid hnx
  have hbn : limS k ax.limits s0 = none → boundsS ax = none := fun e => bounds_none ax hlt HF.out (by rw [HS.out]; exact e)
  have HBN := Lib.hid hbn
  have hll : (out.map spC.enc).length + 1 ≤ most := by simp only [List.length_map, hol]; unfold most; omega
  clear hnx hbn
  have hw := wrap_succ hlt (by unfold maxL; omega)
  have inner : ∀ (e' : Mp AV) (lm' : Mp (Nat × List AV)) (g : Nat) (Q : Out → Prop), lm'.get 1 = some (0, [.int .i64 ax.chuck.lo, .int .i64 ax.chuck.hi, .int .i64 ax.wear.lo, .int .i64 ax.wear.hi, v]) → lm'.get 5 = some (g, [.int .i64 s0.lo, .int .i64 s0.hi]) →
    e'.get 1 = some (.lptr 1 0 0) → e'.get 3 = some u → e'.get 4 = some (.int .i64 ↑k) → e'.get 5 = some (.lptr 5 g 0) → e'.get 10 = some (.int .i64 ↑k) → e'.get 39 = some v → e'.get 40 = some (.int .i64 ↑ax.limits.length) → e'.get 41 = some (.int .i64 0) → True := fun _ _ _ _ _ _ _ _ _ _ _ _ _ _ => trivial
  clear inner
  rcases hcase with ⟨hk0, hsc⟩ | ⟨hk0, pv, hpv, hsc⟩
  ·have hgt : decide ((k : Int) > 0) = false := by simp; omega
   have HSC := Lib.hid hsc
   clear hol hk0 hsc
   repeat' (first | (apply W.drawQ (id := 7) (l1 := [0, 1, 2, 3, 4, 5, 6, 7, 8, 9, 10, 11, 12, 13, 14, 15, 16, 17, 18, 19, 20]) (l2 := [21]); kernel_rfl; kernel_rfl; kernel_rfl; exact Z4) | (apply W.drawQ (id := 20) (l1 := [0, 1, 2, 3, 4, 5, 6, 7, 8, 9, 10, 11, 12, 13, 14, 15, 16, 17, 18, 19, 20, 21, 22]) (l2 := [23]); kernel_rfl; kernel_rfl; kernel_rfl; exact Z4) | refine go1 ?_ | refine go2 (fun hh => ?_) (fun hh => ?_) | fail)
   all_goals (
    refine W.loopN ax.limits.length (fun j F => ∃ e lm g s, F = Fr.mk 157 false e lm hp [] none ∧ limS k (ax.limits.drop j) s = limS k ax.limits s0 ∧ lm.get 1 = some (0, [.int .i64 ax.chuck.lo, .int .i64 ax.chuck.hi, .int .i64 ax.wear.lo, .int .i64 ax.wear.hi, v]) ∧ lm.get 5 = some (g, [.int .i64 s.lo, .int .i64 s.hi]) ∧
     e.get 1 = some (.lptr 1 0 0) ∧ e.get 3 = some u ∧ e.get 4 = some (.int .i64 ↑k) ∧ e.get 5 = some (.lptr 5 g 0) ∧ e.get 10 = some (.int .i64 ↑k) ∧ e.get 39 = some v ∧ e.get 40 = some (.int .i64 ↑ax.limits.length) ∧ e.get 41 = some (.int .i64 ↑j) ∧ j ≤ ax.limits.length) ?_ ?_
    ·refine ⟨_, _, nextGen lm 5, s0, rfl, ?_, ?_, ?_, ?_, ?_, ?_, ?_, ?_, ?_, ?_, ?_, ?_⟩ <;> first | exact Z2 | (have hsc := HSC.out; simp only [hsc, nxtS, w64, go_sem, *, Nat.reduceLT, Int.reduceEq, Int.reduceBEq, Int.reduceLE, Int.reduceLT, Nat.reduceAdd, Nat.reduceBEq, Nat.reduceEqDiff, reduceIte, Nat.reduceLeDiff, Nat.reduceMul, Nat.reduceSub, reduceCtorEq]; done) | simp
    rintro j F ⟨e, lm, g, s, rfl, hls, hl1, hl5, h1, h3, h4, h5, h10, h39, h40, h41, hj⟩
    have HLS := Lib.hid hls
    clear hls hgt
    by_cases hjt : j < ax.limits.length
    ·obtain ⟨m, hm⟩ := get_some hjt
     have hdr : ax.limits.drop j = m :: ax.limits.drop (j + 1) := by
      rw [List.drop_eq_getElem_cons hjt]
      rw [List.getElem?_eq_getElem hjt] at hm
      rw [Option.some.inj hm]
     obtain ⟨ptr, hptr, hmem⟩ := HV.out.get j m hm hp hX.2
     have hdj : decide ((j : Int) < (ax.limits.length : Int)) = true := by simpa using hjt
     have hwj := wrap_succ hjt hmax
     have hlsm : (if m.b == ↑k then (if empS (interS s m.sp) then none else limS k (ax.limits.drop (j + 1)) (interS s m.sp)) else limS k (ax.limits.drop (j + 1)) s) = limS k ax.limits s0 := by
      have := HLS.out
      rw [hdr, limS_cons] at this
      exact this
     have HM := Lib.hid hlsm
     clear hm hdr hlsm hd
     by_cases hbl : (m.b == (k : Int)) = true
     ·by_cases hem : empS (interS s m.sp) = true
      ·have hcl : Cl (dX c) 191 [.int .i64 ↑k, .agg [.int .i64 s.lo, .int .i64 s.hi], .vslice [.agg [.int .i64 m.lo, .int .i64 m.hi]]] hp (.pan (.iface 223 (.agg [.int .i64 ↑k])) hp none) := by
        have q := C191 c hc2 ↑k s (.vslice [.agg [.int .i64 m.lo, .int .i64 m.hi]]) [m.sp] rfl hp
        rw [comR_pan hem] at q
        exact q
       have hbn := HBN.out (by rw [← HM.out, hbl, hem]; rfl)
       have HB2 := Lib.hid hbn
       clear hbn hem
       repeat' (first | (apply U6; exact Z1; exact Z1; (focus (exact hcl)); simp only [pM, pN, rR, rP]) | refine go1 ?_ | refine go2 (fun hh => ?_) (fun hh => ?_) | fail)
       exact isBnd_pan HB2.out hX
      ·have hem : empS (interS s m.sp) = false := by simpa using hem
       have hcl : Cl (dX c) 191 [.int .i64 ↑k, .agg [.int .i64 s.lo, .int .i64 s.hi], .vslice [.agg [.int .i64 m.lo, .int .i64 m.hi]]] hp (.ret (.agg [.int .i64 (interS s m.sp).lo, .int .i64 (interS s m.sp).hi]) hp none) := by
        have q := C191 c hc2 ↑k s (.vslice [.agg [.int .i64 m.lo, .int .i64 m.hi]]) [m.sp] rfl hp
        rw [comR_ret hem] at q
        exact q
       have hnl : limS k (ax.limits.drop (j + 1)) (interS s m.sp) = limS k ax.limits s0 := by rw [← HM.out, hbl, hem]; rfl
       have HNL := Lib.hid hnl
       clear hnl hem
       repeat' (first | (apply U6; exact Z1; exact Z1; (focus (exact hcl)); simp only [pM, pN, rR, rP]) | refine go1 ?_ | refine go2 (fun hh => ?_) (fun hh => ?_) | fail)
       refine ⟨hjt, _, _, g, interS s m.sp, rfl, HNL.out, ?_, ?_, ?_, ?_, ?_, ?_, ?_, ?_, ?_, ?_, by omega⟩
       all_goals exact Z2
     ·have hbl : (m.b == (k : Int)) = false := by simpa using hbl
      have hnl : limS k (ax.limits.drop (j + 1)) s = limS k ax.limits s0 := by rw [← HM.out, hbl]; rfl
      have HNL := Lib.hid hnl
      clear hnl
      repeat' (first | (apply U6; exact Z1; exact Z1; (focus (exact hcl)); simp only [pM, pN, rR, rP]) | refine go1 ?_ | refine go2 (fun hh => ?_) (fun hh => ?_) | fail)
      refine ⟨hjt, _, _, g, s, rfl, HNL.out, ?_, ?_, ?_, ?_, ?_, ?_, ?_, ?_, ?_, ?_, by omega⟩
      all_goals exact Z2
    ·have hdj : decide ((j : Int) < (ax.limits.length : Int)) = false := by simpa using hjt
     have hjl : j = ax.limits.length := by omega
     have hfin : limS k ax.limits s0 = some s := by
      rw [← HLS.out, hjl, List.drop_length, limS_nil]
     have hf1 : fwdS ax (k + 1) = some (out ++ [s]) := by rw [HNX.out, hfin]
     have HF1 := Lib.hid hf1
     clear hf1 hfin hjl hd
     repeat' (first | (apply WO1.appendN (t := 146) (u := 146) (e := 48) (e' := 48) (sz := 2) (tl := []) (b := h.next) (h0 := h) (hb := hB) (hx := hX); exact Z1; exact rfl; (focus exact Z2); (focus exact Z2); (focus exact Z2); (focus (exact ty_row146)); exact Z1; (focus (intro v hv; simp at hv; rcases hv with rfl | rfl <;> rfl)); (focus (simp only [List.length_cons, List.length_nil]; exact hll)); (focus (simp)); (intro v' h' hB' ho' hX'; simp only [pM, pN])) | refine go1 ?_ | refine go2 (fun hh => ?_) (fun hh => ?_) | fail)
     refine ⟨hlt, _, _, _, v', out ++ [s], rfl, HF1.out, ?_, hX', ?_, ?_, ?_, ?_, by omega⟩
     ·simpa [spC] using hB'
     all_goals exact Z2)
  ·have hgt : decide ((k : Int) > 0) = true := by simp; omega
   have hne : out.map spC.enc ≠ [] := by
    intro e
    have : out = [] := by simpa using e
    rw [this] at hol
    simp at hol
    omega
   obtain ⟨id, hu, hgr, hbid, hidn⟩ := hB.row hne
   have hwm : IntKind.i64.wrap (↑k - 1) = ↑(k - 1) := by rw [wrap_small (by omega) (by omega)]; omega
   have hrow : (out.map spC.enc)[k - 1]? = some (.agg [.int .i64 pv.lo, .int .i64 pv.hi]) := by simp [hpv, spC]
   have hixr : indexAddrV Tryz.prog hp 146 u (.int .i64 ↑(k - 1)) = some (.eptr id 2 (k - 1) 0) := by
    have h1 : idxV (.int .i64 ↑(k - 1)) (out.map spC.enc).length = some (k - 1) := by
     simp only [idxV, List.length_map, hol]
     rw [if_pos (by omega)]
     simp
    rw [hu]
    simp only [indexAddrV, Tryz.underlying146, ty_lay48, h1, hgr, if_true, Nat.zero_add]
   have HU := Lib.hid hu
   have HPV := Lib.hid hpv
   have HSC := Lib.hid hsc
   clear hol hu hne hpv hk0 hsc
   repeat' (first | (apply W.drawQ (id := 7) (l1 := [0, 1, 2, 3, 4, 5, 6, 7, 8, 9, 10, 11, 12, 13, 14, 15, 16, 17, 18, 19, 20]) (l2 := [21]); kernel_rfl; kernel_rfl; kernel_rfl; exact Z4) | (apply W.drawQ (id := 20) (l1 := [0, 1, 2, 3, 4, 5, 6, 7, 8, 9, 10, 11, 12, 13, 14, 15, 16, 17, 18, 19, 20, 21, 22]) (l2 := [23]); kernel_rfl; kernel_rfl; kernel_rfl; exact Z4) | refine go1 ?_ | refine go2 (fun hh => ?_) (fun hh => ?_) | fail)
   all_goals (clear hgr hixr hrow hwm)
   all_goals (
    refine W.loopN ax.limits.length (fun j F => ∃ e lm g s, F = Fr.mk 157 false e lm hp [] none ∧ limS k (ax.limits.drop j) s = limS k ax.limits s0 ∧ lm.get 1 = some (0, [.int .i64 ax.chuck.lo, .int .i64 ax.chuck.hi, .int .i64 ax.wear.lo, .int .i64 ax.wear.hi, v]) ∧ lm.get 5 = some (g, [.int .i64 s.lo, .int .i64 s.hi]) ∧
     e.get 1 = some (.lptr 1 0 0) ∧ e.get 3 = some u ∧ e.get 4 = some (.int .i64 ↑k) ∧ e.get 5 = some (.lptr 5 g 0) ∧ e.get 10 = some (.int .i64 ↑k) ∧ e.get 39 = some v ∧ e.get 40 = some (.int .i64 ↑ax.limits.length) ∧ e.get 41 = some (.int .i64 ↑j) ∧ j ≤ ax.limits.length) ?_ ?_
    ·refine ⟨_, _, nextGen lm 5, s0, rfl, ?_, ?_, ?_, ?_, ?_, ?_, ?_, ?_, ?_, ?_, ?_, ?_⟩ <;> first | exact Z2 | (have hsc := HSC.out; simp only [hsc, nxtS, w64, go_sem, *, Nat.reduceLT, Int.reduceEq, Int.reduceBEq, Int.reduceLE, Int.reduceLT, Nat.reduceAdd, Nat.reduceBEq, Nat.reduceEqDiff, reduceIte, Nat.reduceLeDiff, Nat.reduceMul, Nat.reduceSub, reduceCtorEq]; done) | simp
    rintro j F ⟨e, lm, g, s, rfl, hls, hl1, hl5, h1, h3, h4, h5, h10, h39, h40, h41, hj⟩
    have HLS := Lib.hid hls
    clear hls hgt
    by_cases hjt : j < ax.limits.length
    ·obtain ⟨m, hm⟩ := get_some hjt
     have hdr : ax.limits.drop j = m :: ax.limits.drop (j + 1) := by
      rw [List.drop_eq_getElem_cons hjt]
      rw [List.getElem?_eq_getElem hjt] at hm
      rw [Option.some.inj hm]
     obtain ⟨ptr, hptr, hmem⟩ := HV.out.get j m hm hp hX.2
     have hdj : decide ((j : Int) < (ax.limits.length : Int)) = true := by simpa using hjt
     have hwj := wrap_succ hjt hmax
     have hlsm : (if m.b == ↑k then (if empS (interS s m.sp) then none else limS k (ax.limits.drop (j + 1)) (interS s m.sp)) else limS k (ax.limits.drop (j + 1)) s) = limS k ax.limits s0 := by
      have := HLS.out
      rw [hdr, limS_cons] at this
      exact this
     have HM := Lib.hid hlsm
     clear hm hdr hlsm hd
     by_cases hbl : (m.b == (k : Int)) = true
     ·by_cases hem : empS (interS s m.sp) = true
      ·have hcl : Cl (dX c) 191 [.int .i64 ↑k, .agg [.int .i64 s.lo, .int .i64 s.hi], .vslice [.agg [.int .i64 m.lo, .int .i64 m.hi]]] hp (.pan (.iface 223 (.agg [.int .i64 ↑k])) hp none) := by
        have q := C191 c hc2 ↑k s (.vslice [.agg [.int .i64 m.lo, .int .i64 m.hi]]) [m.sp] rfl hp
        rw [comR_pan hem] at q
        exact q
       have hbn := HBN.out (by rw [← HM.out, hbl, hem]; rfl)
       have HB2 := Lib.hid hbn
       clear hbn hem
       repeat' (first | (apply U6; exact Z1; exact Z1; (focus (exact hcl)); simp only [pM, pN, rR, rP]) | refine go1 ?_ | refine go2 (fun hh => ?_) (fun hh => ?_) | fail)
       exact isBnd_pan HB2.out hX
      ·have hem : empS (interS s m.sp) = false := by simpa using hem
       have hcl : Cl (dX c) 191 [.int .i64 ↑k, .agg [.int .i64 s.lo, .int .i64 s.hi], .vslice [.agg [.int .i64 m.lo, .int .i64 m.hi]]] hp (.ret (.agg [.int .i64 (interS s m.sp).lo, .int .i64 (interS s m.sp).hi]) hp none) := by
        have q := C191 c hc2 ↑k s (.vslice [.agg [.int .i64 m.lo, .int .i64 m.hi]]) [m.sp] rfl hp
        rw [comR_ret hem] at q
        exact q
       have hnl : limS k (ax.limits.drop (j + 1)) (interS s m.sp) = limS k ax.limits s0 := by rw [← HM.out, hbl, hem]; rfl
       have HNL := Lib.hid hnl
       clear hnl hem
       repeat' (first | (apply U6; exact Z1; exact Z1; (focus (exact hcl)); simp only [pM, pN, rR, rP]) | refine go1 ?_ | refine go2 (fun hh => ?_) (fun hh => ?_) | fail)
       refine ⟨hjt, _, _, g, interS s m.sp, rfl, HNL.out, ?_, ?_, ?_, ?_, ?_, ?_, ?_, ?_, ?_, ?_, by omega⟩
       all_goals exact Z2
     ·have hbl : (m.b == (k : Int)) = false := by simpa using hbl
      have hnl : limS k (ax.limits.drop (j + 1)) s = limS k ax.limits s0 := by rw [← HM.out, hbl]; rfl
      have HNL := Lib.hid hnl
      clear hnl
      repeat' (first | (apply U6; exact Z1; exact Z1; (focus (exact hcl)); simp only [pM, pN, rR, rP]) | refine go1 ?_ | refine go2 (fun hh => ?_) (fun hh => ?_) | fail)
      refine ⟨hjt, _, _, g, s, rfl, HNL.out, ?_, ?_, ?_, ?_, ?_, ?_, ?_, ?_, ?_, ?_, by omega⟩
      all_goals exact Z2
    ·have hdj : decide ((j : Int) < (ax.limits.length : Int)) = false := by simpa using hjt
     have hjl : j = ax.limits.length := by omega
     have hfin : limS k ax.limits s0 = some s := by
      rw [← HLS.out, hjl, List.drop_length, limS_nil]
     have hf1 : fwdS ax (k + 1) = some (out ++ [s]) := by rw [HNX.out, hfin]
     have HF1 := Lib.hid hf1
     clear hf1 hfin hjl hd
     repeat' (first | (apply WO1.appendN (t := 146) (u := 146) (e := 48) (e' := 48) (sz := 2) (tl := []) (b := h.next) (h0 := h) (hb := hB) (hx := hX); exact Z1; exact rfl; (focus exact Z2); (focus exact Z2); (focus exact Z2); (focus (exact ty_row146)); exact Z1; (focus (intro v hv; simp at hv; rcases hv with rfl | rfl <;> rfl)); (focus (simp only [List.length_cons, List.length_nil]; exact hll)); (focus (simp)); (intro v' h' hB' ho' hX'; simp only [pM, pN])) | refine go1 ?_ | refine go2 (fun hh => ?_) (fun hh => ?_) | fail)
     refine ⟨hlt, _, _, _, v', out ++ [s], rfl, HF1.out, ?_, hX', ?_, ?_, ?_, ?_, by omega⟩
     ·simpa [spC] using hB'
     all_goals exact Z2)
 ·have hd : decide ((k : Int) < 13) = false := by simp; omega
  have hk13 : k = 13 := by omega
  have hne : out.map spC.enc ≠ [] := by
   intro e
   have : out = [] := by simpa using e
   rw [this] at hol
   simp at hol
   omega
  obtain ⟨id, hu, hgr, hbid, hidn⟩ := hB.row hne
  have hu13 : u = .row id 0 13 := by rw [hu, List.length_map, hol, hk13]
  have hol13 : out.length = 13 := by omega
  have hbd : boundsS ax = bwdS ax 12 out := by rw [hk13] at hf; simp only [boundsS_def, hf]
  subst hu13
  have HBD := Lib.hid hbd
  have HOL := Lib.hid hol13
  have HGR := Lib.hid hgr
  clear hbd hol13 hgr hf hol hk13 hu hne hB hk
  repeat' (first | (apply W.drawQ (id := 7) (l1 := [0, 1, 2, 3, 4, 5, 6, 7, 8, 9, 10, 11, 12, 13, 14, 15, 16, 17, 18, 19, 20]) (l2 := [21]); kernel_rfl; kernel_rfl; kernel_rfl; exact Z4) | (apply W.drawQ (id := 20) (l1 := [0, 1, 2, 3, 4, 5, 6, 7, 8, 9, 10, 11, 12, 13, 14, 15, 16, 17, 18, 19, 20, 21, 22]) (l2 := [23]); kernel_rfl; kernel_rfl; kernel_rfl; exact Z4) | refine go1 ?_ | refine go2 (fun hh => ?_) (fun hh => ?_) | fail)
  refine W.loopN 12 (fun j F => ∃ e lm hp cur, F = Fr.mk 157 false e lm hp [] none ∧ bwdS ax (12 - j) cur = bwdS ax 12 out ∧ cur.length = 13 ∧ hp.get id = some (.rw 2 (cur.map spC.enc)) ∧ (id < hp.next ∧ h.next ≤ hp.next ∧ ∀ id, id < h.next → hp.get id = h.get id) ∧
   lm.get 1 = some (0, [.int .i64 ax.chuck.lo, .int .i64 ax.chuck.hi, .int .i64 ax.wear.lo, .int .i64 ax.wear.hi, v]) ∧ e.get 1 = some (.lptr 1 0 0) ∧ e.get 3 = some (.row id 0 13) ∧ e.get 8 = some (.int .i64 (11 - ↑j)) ∧ j ≤ 12) ?_ ?_
  ·refine ⟨_, _, _, out, rfl, rfl, HOL.out, HGR.out, ⟨hidn, hX⟩, ?_, ?_, ?_, ?_, ?_⟩ <;> first | exact Z2 | simp [go_sem, *]
  clear hd hbo h10
  rintro j F ⟨e, lm, hp, cur, rfl, hbw, hcl13, hgid, hX, hl1, h1, h3, h8, hj⟩
  have HBW := Lib.hid hbw
  have HC := Lib.hid hcl13
  clear hbw
  by_cases hjt : j < 12
  ·have hdj : decide ((11 - (j : Int)) ≥ 0) = true := by simp; omega
   obtain ⟨pb, hpb⟩ := get_some (show 11 - j < cur.length by omega)
   obtain ⟨pn, hpn⟩ := get_some (show 12 - j < cur.length by omega)
   have hw1 : IntKind.i64.wrap (11 - ↑j + 1) = ↑(12 - j) := by rw [wrap_small (by omega) (by omega)]; omega
   have hw2 : IntKind.i64.wrap (11 - ↑j - 1) = 11 - ↑(j + 1) := by rw [wrap_small (by omega) (by omega)]; omega
   have hrb : (cur.map spC.enc)[11 - j]? = some (.agg [.int .i64 pb.lo, .int .i64 pb.hi]) := by simp [hpb, spC]
   have hrn : (cur.map spC.enc)[12 - j]? = some (.agg [.int .i64 pn.lo, .int .i64 pn.hi]) := by simp [hpn, spC]
   have hib : ∀ H : Heap, H.get id = some (.rw 2 (cur.map spC.enc)) → indexAddrV Tryz.prog H 146 (.row id 0 13) (.int .i64 (11 - ↑j)) = some (.eptr id 2 (11 - j) 0) := fun H hg => by
    have h1 : idxV (.int .i64 (11 - ↑j)) 13 = some (11 - j) := by
     simp only [idxV]
     rw [if_pos (by omega)]
     congr 1
     omega
    simp only [indexAddrV, Tryz.underlying146, ty_lay48, h1, hg, if_true, Nat.zero_add]
   have hin : ∀ H : Heap, H.get id = some (.rw 2 (cur.map spC.enc)) → indexAddrV Tryz.prog H 146 (.row id 0 13) (.int .i64 ↑(12 - j)) = some (.eptr id 2 (12 - j) 0) := fun H hg => by
    have h1 : idxV (.int .i64 ↑(12 - j)) 13 = some (12 - j) := by
     simp only [idxV]
     rw [if_pos (by omega)]
     simp
    simp only [indexAddrV, Tryz.underlying146, ty_lay48, h1, hg, if_true, Nat.zero_add]
   have hixb := hib hp hgid
   have hixn := hin hp hgid
   have hstep : bwdS ax (12 - j) cur = if empS (interS pb (prvS ax pn)) then none else bwdS ax (11 - j) (cur.set (11 - j) (interS pb (prvS ax pn))) := by
    rw [show 12 - j = (11 - j) + 1 from by omega, bwdS_succ]
    have e1 : cur.getD (11 - j) ⟨0, 0⟩ = pb := by simp [List.getD, hpb]
    have e2 : cur.getD (11 - j + 1) ⟨0, 0⟩ = pn := by rw [show 11 - j + 1 = 12 - j from by omega]; simp [List.getD, hpn]
    rw [e1, e2]
   have HST := Lib.hid hstep
   clear hib hin hpb hpn hstep hcl13
   by_cases hem : empS (interS pb (prvS ax pn)) = true
   ·have hcl : Cl (dX c) 191 [.int .i64 (11 - ↑j), .agg [.int .i64 pb.lo, .int .i64 pb.hi], .vslice [.agg [.int .i64 (IntKind.i64.wrap (pn.lo - ax.wear.hi)), .int .i64 (IntKind.i64.wrap (pn.hi - ax.wear.lo))]]] hp (.pan (.iface 223 (.agg [.int .i64 (11 - ↑j)])) hp none) := by
     have q := C191 c hc2 (11 - ↑j) pb (.vslice [.agg [.int .i64 (prvS ax pn).lo, .int .i64 (prvS ax pn).hi]]) [prvS ax pn] rfl hp
     rw [comR_pan hem] at q
     exact q
    have hbn : boundsS ax = none := by rw [HBD.out, ← HBW.out, HST.out, hem]; rfl
    have HBN := Lib.hid hbn
    clear hbn hem
    repeat' (first | (apply W.drawP (id := 20) (i := 21) (l1 := [0, 1, 2, 3, 4, 5, 6, 7, 8, 9, 10, 11, 12, 13, 14, 15, 16, 17, 18, 19, 20]) (l2 := [22, 23]); kernel_rfl; kernel_rfl; kernel_rfl; exact rfl; exact rfl; exact Z4) | (apply U6; exact Z1; exact Z1; (focus (exact hcl)); simp only [pM, pN, rR, rP]) | (simp only [junkAll, pM, pN, tP, bP, eP, true_and]) | refine go1 ?_ | refine go2 (fun hh => ?_) (fun hh => ?_) | fail)
    exact isBnd_pan HBN.out hX.2
   ·have hem : empS (interS pb (prvS ax pn)) = false := by simpa using hem
    have hcl : Cl (dX c) 191 [.int .i64 (11 - ↑j), .agg [.int .i64 pb.lo, .int .i64 pb.hi], .vslice [.agg [.int .i64 (IntKind.i64.wrap (pn.lo - ax.wear.hi)), .int .i64 (IntKind.i64.wrap (pn.hi - ax.wear.lo))]]] hp (.ret (.agg [.int .i64 (interS pb (prvS ax pn)).lo, .int .i64 (interS pb (prvS ax pn)).hi]) hp none) := by
     have q := C191 c hc2 (11 - ↑j) pb (.vslice [.agg [.int .i64 (prvS ax pn).lo, .int .i64 (prvS ax pn).hi]]) [prvS ax pn] rfl hp
     rw [comR_ret hem] at q
     exact q
    have hnb : bwdS ax (11 - j) (cur.set (11 - j) (interS pb (prvS ax pn))) = bwdS ax 12 out := by rw [← HBW.out, HST.out, hem]; rfl
    have HNB := Lib.hid hnb
    clear hnb hem
    repeat' (first | (apply W.drawQ (id := 7) (l1 := [0, 1, 2, 3, 4, 5, 6, 7, 8, 9, 10, 11, 12, 13, 14, 15, 16, 17, 18, 19, 20]) (l2 := [21]); kernel_rfl; kernel_rfl; kernel_rfl; exact Z4) | (apply W.drawQ (id := 20) (l1 := [0, 1, 2, 3, 4, 5, 6, 7, 8, 9, 10, 11, 12, 13, 14, 15, 16, 17, 18, 19, 20, 21, 22]) (l2 := [23]); kernel_rfl; kernel_rfl; kernel_rfl; exact Z4) | (apply U6; exact Z1; exact Z1; (focus (exact hcl)); simp only [pM, pN, rR, rP]) | refine go1 ?_ | refine go2 (fun hh => ?_) (fun hh => ?_) | fail)
    refine ⟨hjt, _, _, _, cur.set (11 - j) (interS pb (prvS ax pn)), rfl, ?_, ?_, ?_, ?_, ?_, ?_, ?_, ?_, by omega⟩
    ·rw [show 12 - (j + 1) = 11 - j from by omega]; exact HNB.out
    ·rw [List.length_set]; exact HC.out
    ·simp [Heap.get, Heap.put, List.map_set, spC, asElem, isAggV]
    ·refine ⟨hX.1, hX.2.1, fun i hi => ?_⟩
     have hne : id ≠ i := by omega
     rw [← hX.2.2 i hi]
     simp [Heap.get, Heap.put, hne]
    all_goals exact Z2
  ·have hdj : decide ((11 - (j : Int)) ≥ 0) = false := by simp; omega
   have hj12 : j = 12 := by omega
   have hbc : boundsS ax = some cur := by rw [HBD.out, ← HBW.out, hj12]; rfl
   have HBC := Lib.hid hbc
   clear hbc hj12 hcl13
   have hne2 : cur.map spC.enc ≠ [] := by
    intro e
    have e2 : cur = [] := by simpa using e
    have e3 := HC.out
    rw [e2] at e3
    simp at e3
   have hsl : slN (cur.map spC.enc) = .vslice (cur.map spC.enc) := by
    cases hh : cur.map spC.enc with
    | nil => exact absurd hh hne2
    | cons x l => rfl
   have hz : freeze hp (.row id 0 13) = some (.vslice (cur.map spC.enc), hp.del id) := by
    show frz1 hp (.row id 0 13) = _
    simp only [frz1, hgid, List.length_map, HC.out, Nat.zero_add, Nat.le_refl, if_true, List.drop_zero]
    rw [List.take_of_length_le (by simp [HC.out])]
   have HSL := Lib.hid hsl
   clear hne2 hsl
   repeat' (first | (apply W.drawQ (id := 7) (l1 := [0, 1, 2, 3, 4, 5, 6, 7, 8, 9, 10, 11, 12, 13, 14, 15, 16, 17, 18, 19, 20]) (l2 := [21]); kernel_rfl; kernel_rfl; kernel_rfl; exact Z4) | (apply W.drawQ (id := 20) (l1 := [0, 1, 2, 3, 4, 5, 6, 7, 8, 9, 10, 11, 12, 13, 14, 15, 16, 17, 18, 19, 20, 21, 22]) (l2 := [23]); kernel_rfl; kernel_rfl; kernel_rfl; exact Z4) | refine go1 ?_ | refine go2 (fun hh => ?_) (fun hh => ?_) | fail)
   all_goals (simp only [resV_def (X := dX c) Tryz.func157, Tryz.results157]; first | exact J5 | refine J6 ?_)
   refine isBnd_ret HBC.out HSL.out ⟨hX.2.1, fun i hi => ?_⟩
   have hne : id ≠ i := by omega
   rw [← hX.2.2 i hi]
   simp [Heap.get, Heap.del, hne]
end Go.AM
namespace Go.AM
open Go Go.Proofs
variable [Keep]
attribute [local irreducible] W WO WO1 WD WQ WT thenQ blockQ endR isRet retK Cl ClR
structure Rdg where
 b : Int
 x : Int
 y : Int
 err : Int
def rdgC : Cd Rdg where
 enc p := .agg [.int .i64 p.b, .int .i64 p.x, .int .i64 p.y, .int .i64 p.err]
 dec a := match a with | .agg [.int .i64 b, .int .i64 x, .int .i64 y, .int .i64 z] => some ⟨b, x, y, z⟩ | _ => none
 de _ := rfl
 ed a x h := by split at h <;> cases h; rfl
 pur _ := rfl
theorem rdg_idx {a : AV} {l : List Rdg} (h : slV rdgC a = some l) {k : Nat} {p : Rdg} (hp : l[k]? = some p) (H : Heap) : indexAddrV Tryz.prog H 49 a (.int .i64 ↑k) = some (.vptr [.int .i64 p.b, .int .i64 p.x, .int .i64 p.y, .int .i64 p.err]) :=
 (slV_is h).1.idx (x := rdgC.enc p) Tryz.underlying49 ty_lay95 (by simp [hp]) rfl
def isAx (h : Heap) (cx wx : Sp) (l : List Lim) (r : COut) : Prop := ∃ h' u, r = .ret (.agg [.int .i64 cx.lo, .int .i64 cx.hi, .int .i64 wx.lo, .int .i64 wx.hi, u]) h' none ∧ BltN h.next h' u 3 (l.map limC.enc) ∧ HExt h h'
theorem isAx_fail {h : Heap} {cx wx : Sp} {l : List Lim} : ¬ isAx h cx wx l .fail := by rintro ⟨_, _, e, _⟩; cases e
theorem isAx_ret {h h' : Heap} {u : AV} {cx wx : Sp} {l : List Lim} (b : BltN h.next h' u 3 (l.map limC.enc)) (x : h.next ≤ h'.next ∧ ∀ id, id < h.next → h'.get id = h.get id) :
  isAx h cx wx l (.ret (.agg [.int .i64 cx.lo, .int .i64 cx.hi, .int .i64 wx.lo, .int .i64 wx.hi, u]) h' none) := ⟨h', u, rfl, b, x⟩
attribute [local irreducible] isAx
def lims155 (rs : List Rdg) : List Lim := rs.map fun r => ⟨r.b, w64 (r.x - r.err), w64 (r.x + r.err)⟩
set_option maxHeartbeats 800000 in
theorem C155 (c : FuncId → Option (List AV → Heap → Option (AV × Heap))) (hc : c 155 = none) (hc2 : c 190 = some (pureFn sp190)) (sa mv ra : AV) (cx cy wx wy : Sp) (rs : List Rdg) (h : Heap) (hr : slV rdgC ra = some rs) (hsa : sa.one = true) (hmv : mv.one = true) :
  ClR (dX c) 155 [.agg [sa, .int .i64 cx.lo, .int .i64 cx.hi, .int .i64 cy.lo, .int .i64 cy.hi, .int .i64 wx.lo, .int .i64 wx.hi, .int .i64 wy.lo, .int .i64 wy.hi, ra, mv]] h (isAx h cx wx (lims155 rs)) := by
 have hlen := sl_len hr
 have hout := sl_out hr
 have hmax := sl_max hr
 refine ClR.walk (c := _) hc Tryz.func155 rfl (by kernel_rfl) rfl isAx_fail ?_
 simp only [entryEnv, Nat.reduceAdd]
 repeat' (first | (apply W.drawQ (id := 5) (l1 := [0, 1, 2, 3, 4, 5, 6, 7, 8, 9, 10]) (l2 := [11, 12, 13]); kernel_rfl; kernel_rfl; kernel_rfl; exact Z4) | refine go1 ?_ | refine go2 (fun hh => ?_) (fun hh => ?_) | fail)
 refine W.loopN rs.length (fun k F => ∃ e lm hp u g, F = Fr.mk 155 false e lm hp [] none ∧ BltN h.next hp u 3 ((lims155 (rs.take k)).map limC.enc) ∧ (h.next ≤ hp.next ∧ ∀ id, id < h.next → hp.get id = h.get id) ∧
  lm.get 3 = some (g, [.int .i64 cx.lo, .int .i64 cx.hi, .int .i64 wx.lo, .int .i64 wx.hi, u]) ∧ lm.get 2 = some (0, [.int .i64 0, .int .i64 0, .int .i64 0, .int .i64 0, .nilslice]) ∧ e.get 2 = some (.lptr 2 0 0) ∧ e.get 3 = some (.lptr 3 g 0) ∧ e.get 15 = some ra ∧ e.get 16 = some (.int .i64 ↑rs.length) ∧ e.get 17 = some (.int .i64 ↑k) ∧ k ≤ rs.length) ?_ ?_
 ·refine ⟨_, _, _, _, 0, rfl, BltN.nil, ⟨Nat.le_refl _, fun _ _ => rfl⟩, ?_, ?_, ?_, ?_, ?_, ?_, ?_, ?_⟩ <;> first | exact Z2 | simp [go_sem, *]
 rintro k F ⟨e, lm, hp, u, g, rfl, hB, hX, hl3, hl2, h2, h3, h15, h16, h17, hk⟩
 have hbo := hB.blt.out
 have hbc := hB.blt.cells
 have hbt := hB.blt.tup
 by_cases hlt : k < rs.length
 ·obtain ⟨p, hp'⟩ := get_some hlt
  have hix := rdg_idx hr hp'
  have hd : decide ((k : Int) < (rs.length : Int)) = true := by simpa using hlt
  have hw := wrap_succ hlt hmax
  have hnx : lims155 (rs.take (k + 1)) = lims155 (rs.take k) ++ [⟨p.b, w64 (p.x - p.err), w64 (p.x + p.err)⟩] := by rw [take_next hp']; simp [lims155]
  have hll : ((lims155 (rs.take k)).map limC.enc).length + 1 ≤ most := by
   simp only [lims155, List.length_map, List.length_take]; unfold most; unfold maxL at hmax; omega
  clear hr hp'
  repeat' (first | (apply W.drawQ (id := 5) (l1 := [0, 1, 2, 3, 4, 5, 6, 7, 8, 9, 10]) (l2 := [11, 12, 13]); kernel_rfl; kernel_rfl; kernel_rfl; exact Z4) | (apply WO1.appendN (t := 226) (u := 226) (e := 230) (e' := 230) (sz := 3) (tl := []) (b := h.next) (h0 := h) (hb := hB) (hx := hX); exact Z1; exact rfl; (focus exact Z2); (focus exact Z2); (focus exact Z2); (focus (exact ty_row226)); exact Z1; (focus (intro v hv; simp at hv; rcases hv with rfl | rfl <;> rfl)); (focus (simp only [List.length_cons, List.length_nil]; exact hll)); (focus (simp)); (intro v' h' hB' ho' hX'; have hcc' := hB'.blt.cells; have htt' := hB'.blt.tup; simp only [AV.cells] at hcc'; simp only [isTuple] at htt'; simp only [pM, pN])) | refine go1 ?_ | (apply U6; exact Z1; exact Z1; (focus (simp only [List.nil_append, List.append_nil]; first | exact K190 hc2 _ _ _)); simp only [pM, pN, rR, rP]) | refine go2 (fun hh => ?_) (fun hh => ?_) | fail)
  refine ⟨hlt, _, _, _, v', g, rfl, ?_, hX', ?_, ?_, ?_, ?_, ?_, ?_, ?_, by omega⟩
  ·rw [hnx]; simpa [limC] using hB'
  all_goals exact Z2
 ·have hd : decide ((k : Int) < (rs.length : Int)) = false := by simpa using hlt
  have hkl : k = rs.length := by omega
  rw [hkl, List.take_length] at hB
  clear hkl hr
  repeat' (first | (apply W.drawQ (id := 5) (l1 := [0, 1, 2, 3, 4, 5, 6, 7, 8, 9, 10]) (l2 := [11, 12, 13]); kernel_rfl; kernel_rfl; kernel_rfl; exact Z4) | refine go1 ?_ | refine go2 (fun hh => ?_) (fun hh => ?_) | fail)
  all_goals (simp only [resV_def (X := dX c) Tryz.func155, Tryz.results155]; first | exact J5 | refine J6 ?_)
  exact isAx_ret hB hX
def lims156 (rs : List Rdg) : List Lim := rs.map fun r => ⟨r.b, w64 (r.y - r.err), w64 (r.y + r.err)⟩
set_option maxHeartbeats 800000 in
theorem C156 (c : FuncId → Option (List AV → Heap → Option (AV × Heap))) (hc : c 156 = none) (hc2 : c 190 = some (pureFn sp190)) (sa mv ra : AV) (cx cy wx wy : Sp) (rs : List Rdg) (h : Heap) (hr : slV rdgC ra = some rs) (hsa : sa.one = true) (hmv : mv.one = true) :
  ClR (dX c) 156 [.agg [sa, .int .i64 cx.lo, .int .i64 cx.hi, .int .i64 cy.lo, .int .i64 cy.hi, .int .i64 wx.lo, .int .i64 wx.hi, .int .i64 wy.lo, .int .i64 wy.hi, ra, mv]] h (isAx h cy wy (lims156 rs)) := by
 have hlen := sl_len hr
 have hout := sl_out hr
 have hmax := sl_max hr
 refine ClR.walk (c := _) hc Tryz.func156 rfl (by kernel_rfl) rfl isAx_fail ?_
 simp only [entryEnv, Nat.reduceAdd]
 repeat' (first | (apply W.drawQ (id := 5) (l1 := [0, 1, 2, 3, 4, 5, 6, 7, 8, 9, 10]) (l2 := [11, 12, 13]); kernel_rfl; kernel_rfl; kernel_rfl; exact Z4) | refine go1 ?_ | refine go2 (fun hh => ?_) (fun hh => ?_) | fail)
 refine W.loopN rs.length (fun k F => ∃ e lm hp u g, F = Fr.mk 156 false e lm hp [] none ∧ BltN h.next hp u 3 ((lims156 (rs.take k)).map limC.enc) ∧ (h.next ≤ hp.next ∧ ∀ id, id < h.next → hp.get id = h.get id) ∧
  lm.get 3 = some (g, [.int .i64 cy.lo, .int .i64 cy.hi, .int .i64 wy.lo, .int .i64 wy.hi, u]) ∧ lm.get 2 = some (0, [.int .i64 0, .int .i64 0, .int .i64 0, .int .i64 0, .nilslice]) ∧ e.get 2 = some (.lptr 2 0 0) ∧ e.get 3 = some (.lptr 3 g 0) ∧ e.get 15 = some ra ∧ e.get 16 = some (.int .i64 ↑rs.length) ∧ e.get 17 = some (.int .i64 ↑k) ∧ k ≤ rs.length) ?_ ?_
 ·refine ⟨_, _, _, _, 0, rfl, BltN.nil, ⟨Nat.le_refl _, fun _ _ => rfl⟩, ?_, ?_, ?_, ?_, ?_, ?_, ?_, ?_⟩ <;> first | exact Z2 | simp [go_sem, *]
 rintro k F ⟨e, lm, hp, u, g, rfl, hB, hX, hl3, hl2, h2, h3, h15, h16, h17, hk⟩
 have hbo := hB.blt.out
 have hbc := hB.blt.cells
 have hbt := hB.blt.tup
 by_cases hlt : k < rs.length
 ·obtain ⟨p, hp'⟩ := get_some hlt
  have hix := rdg_idx hr hp'
  have hd : decide ((k : Int) < (rs.length : Int)) = true := by simpa using hlt
  have hw := wrap_succ hlt hmax
  have hnx : lims156 (rs.take (k + 1)) = lims156 (rs.take k) ++ [⟨p.b, w64 (p.y - p.err), w64 (p.y + p.err)⟩] := by rw [take_next hp']; simp [lims156]
  have hll : ((lims156 (rs.take k)).map limC.enc).length + 1 ≤ most := by
   simp only [lims156, List.length_map, List.length_take]; unfold most; unfold maxL at hmax; omega
  clear hr hp'
  repeat' (first | (apply W.drawQ (id := 5) (l1 := [0, 1, 2, 3, 4, 5, 6, 7, 8, 9, 10]) (l2 := [11, 12, 13]); kernel_rfl; kernel_rfl; kernel_rfl; exact Z4) | (apply WO1.appendN (t := 226) (u := 226) (e := 230) (e' := 230) (sz := 3) (tl := []) (b := h.next) (h0 := h) (hb := hB) (hx := hX); exact Z1; exact rfl; (focus exact Z2); (focus exact Z2); (focus exact Z2); (focus (exact ty_row226)); exact Z1; (focus (intro v hv; simp at hv; rcases hv with rfl | rfl <;> rfl)); (focus (simp only [List.length_cons, List.length_nil]; exact hll)); (focus (simp)); (intro v' h' hB' ho' hX'; have hcc' := hB'.blt.cells; have htt' := hB'.blt.tup; simp only [AV.cells] at hcc'; simp only [isTuple] at htt'; simp only [pM, pN])) | refine go1 ?_ | (apply U6; exact Z1; exact Z1; (focus (simp only [List.nil_append, List.append_nil]; first | exact K190 hc2 _ _ _)); simp only [pM, pN, rR, rP]) | refine go2 (fun hh => ?_) (fun hh => ?_) | fail)
  refine ⟨hlt, _, _, _, v', g, rfl, ?_, hX', ?_, ?_, ?_, ?_, ?_, ?_, ?_, by omega⟩
  ·rw [hnx]; simpa [limC] using hB'
  all_goals exact Z2
 ·have hd : decide ((k : Int) < (rs.length : Int)) = false := by simpa using hlt
  have hkl : k = rs.length := by omega
  rw [hkl, List.take_length] at hB
  clear hkl hr
  repeat' (first | (apply W.drawQ (id := 5) (l1 := [0, 1, 2, 3, 4, 5, 6, 7, 8, 9, 10]) (l2 := [11, 12, 13]); kernel_rfl; kernel_rfl; kernel_rfl; exact Z4) | refine go1 ?_ | refine go2 (fun hh => ?_) (fun hh => ?_) | fail)
  all_goals (simp only [resV_def (X := dX c) Tryz.func156, Tryz.results156]; first | exact J5 | refine J6 ?_)
  exact isAx_ret hB hX
end Go.AM
namespace Go.AM
open Go Go.Proofs
variable [Keep]
attribute [local irreducible] W WO WO1 WD WQ WT thenQ blockQ endR isRet retK Cl ClR
attribute [local irreducible] DefR
theorem eql_nn : binV Tryz.prog .eql 20 true .niliface .niliface = some (.bool true) := by kernel_rfl
theorem eql_in (t : TypeId) (v : AV) : binV Tryz.prog .eql 20 true (.iface t v) .niliface = some (.bool false) := by kernel_rfl
variable (c : FuncId → Option (List AV → Heap → Option (AV × Heap)))
theorem D154n (hn : Nat) (n : Nat) (m : Mp Blk) (Q : Heap → Option AV → Prop) (q : Q ⟨n, m⟩ none) : DefR (dX c) [(.func (.func 154) [] [.ptr hn 0, .ptr (hn + 1) 0], [])] ⟨n, m⟩ none Q := by
 have q := Lib.hid q
 have hq1 := eql_nn
 have hq2 := eql_in
 refine DefR.cons (g := 154) (X := dX c) Tryz.func154 (by kernel_rfl) rfl (by kernel_rfl) rfl ?_
 simp only [entryEnv, Nat.reduceAdd, List.nil_append, List.append_nil, Option.map_none]
 repeat' (first | (apply U5; exact rfl; (focus (intro cl rd; simp only [go_sem, *, Nat.reduceLT, Int.reduceEq, Int.reduceBEq, Int.reduceLE, Int.reduceLT, Nat.reduceAdd, Nat.reduceBEq, Nat.reduceEqDiff, reduceIte, Nat.reduceLeDiff, Nat.reduceMul, Nat.reduceSub, reduceCtorEq, efV, Fr.callOp, Fr.builtinE, Fr.recoverE, reduceIte, Bool.false_eq_true]; with_reducible rfl)); simp only [pM, pN]) | (simp only [endDef_norm]) | refine go1 ?_ | refine go2 (fun hh => ?_) (fun hh => ?_) | fail)
 refine DefR.nil ?_
 exact q.out
theorem D154p (hn : Nat) (n : Nat) (m : Mp Blk) (a b : AV) (x : Int) (Q : Heap → Option AV → Prop) (hg : m.get hn = some (.var [a, b])) (hg1 : m.get (hn + 1) = some (.var [.bool false])) (q : ∀ m', m'.get hn = some (.var [.nilslice, .nilslice]) → m'.get (hn + 1) = some (.var [.bool false]) → (∀ id, id < hn → m'.get id = m.get id) → Q ⟨n, m'⟩ none) :
  DefR (dX c) [(.func (.func 154) [] [.ptr hn 0, .ptr (hn + 1) 0], [])] ⟨n, m⟩ (some (.iface 223 (.agg [.int .i64 x]))) Q := by
 have q := Lib.hid q
 have hq1 := eql_nn
 have hq2 := eql_in
 have h1 : (hn == hn + 1) = false := by simp
 have h2 : (hn + 1 == hn) = false := by simp
 refine DefR.cons (g := 154) (X := dX c) Tryz.func154 (by kernel_rfl) rfl (by kernel_rfl) rfl ?_
 simp only [entryEnv, Nat.reduceAdd, List.nil_append, List.append_nil, Option.map_some]
 repeat' (first | (apply U5; exact rfl; (focus (intro cl rd; simp only [go_sem, *, Nat.reduceLT, Int.reduceEq, Int.reduceBEq, Int.reduceLE, Int.reduceLT, Nat.reduceAdd, Nat.reduceBEq, Nat.reduceEqDiff, reduceIte, Nat.reduceLeDiff, Nat.reduceMul, Nat.reduceSub, reduceCtorEq, efV, Fr.callOp, Fr.builtinE, Fr.recoverE, reduceIte, Bool.false_eq_true]; with_reducible rfl)); simp only [pM, pN]) | (simp only [endDef_norm]) | refine go1 ?_ | refine go2 (fun hh => ?_) (fun hh => ?_) | fail)
 refine DefR.nil ?_
 refine q.out _ ?_ ?_ ?_
 ·simp only [go_sem, *, Nat.reduceLT, Int.reduceEq, Int.reduceBEq, Int.reduceLE, Int.reduceLT, Nat.reduceAdd, Nat.reduceBEq, Nat.reduceEqDiff, reduceIte, Nat.reduceLeDiff, Nat.reduceMul, Nat.reduceSub, reduceCtorEq]
 ·simp only [go_sem, *, Nat.reduceLT, Int.reduceEq, Int.reduceBEq, Int.reduceLE, Int.reduceLT, Nat.reduceAdd, Nat.reduceBEq, Nat.reduceEqDiff, reduceIte, Nat.reduceLeDiff, Nat.reduceMul, Nat.reduceSub, reduceCtorEq]
 ·intro id hid
  have e1 : (hn == id) = false := by simp; omega
  have e2 : (hn + 1 == id) = false := by simp; omega
  simp only [go_sem, *, Nat.reduceLT, Int.reduceEq, Int.reduceBEq, Int.reduceLE, Int.reduceLT, Nat.reduceAdd, Nat.reduceBEq, Nat.reduceEqDiff, reduceIte, Nat.reduceLeDiff, Nat.reduceMul, Nat.reduceSub, reduceCtorEq]
structure Held where
 b : Int
 x : Sp
 y : Sp
def heldC : Cd Held where
 enc p := .agg [.int .i64 p.b, .int .i64 p.x.lo, .int .i64 p.x.hi, .int .i64 p.y.lo, .int .i64 p.y.hi]
 dec a := match a with | .agg [.int .i64 b, .int .i64 x, .int .i64 y, .int .i64 z, .int .i64 w] => some ⟨b, ⟨x, y⟩, ⟨z, w⟩⟩ | _ => none
 de _ := rfl
 ed a x h := by split at h <;> cases h; rfl
 pur _ := rfl
theorem held_idx {a : AV} {l : List Held} (h : slV heldC a = some l) {k : Nat} {p : Held} (hp : l[k]? = some p) (H : Heap) : indexAddrV Tryz.prog H 173 a (.int .i64 ↑k) = some (.vptr [.int .i64 p.b, .int .i64 p.x.lo, .int .i64 p.x.hi, .int .i64 p.y.lo, .int .i64 p.y.hi]) :=
 (slV_is h).1.idx (x := heldC.enc p) Tryz.underlying173 ty_lay176 (by simp [hp]) rfl
theorem BltN.rdl {b : Nat} {h : Heap} {v : AV} {l : List Lim} (q : BltN b h v 3 (l.map limC.enc)) (hm : l.length ≤ maxL) : RdL h v l := by
 refine ⟨?_, q.blt.out, hm, q.blt.cells, q.blt.tup, ?_⟩
 ·rcases q with ⟨rfl, e⟩ | ⟨id, rfl, h1, h2, h3, h4⟩
  ·simp at e; subst e; rfl
  ·simp [lenS]
 ·intro k m hk hp hx
  have hkl : k < l.length := by
   rw [List.getElem?_eq_some_iff] at hk; exact hk.1
  rcases q with ⟨rfl, e⟩ | ⟨id, rfl, h1, h2, h3, h4⟩
  ·simp at e; subst e; simp at hkl
  ·refine ⟨.eptr id 3 k 0, ?_, fun f rnd e lm df up => ?_⟩
   ·have hg := (hx id h3).trans h1
    have hi : idxV (.int .i64 ↑k) (l.map limC.enc).length = some k := by simp [idxV, hkl]
    simp only [indexAddrV, Tryz.underlying226, ty_lay230, hi, hg, if_true, Nat.zero_add]
   ·have hg := (hx id h3).trans h1
    rw [mem_eptr]
    simp only [hg, List.getElem?_map, hk, Option.map_some, if_true, limC, AV.cells]
structure RdH (h : Heap) (v : AV) (l : List Held) : Prop where
 len : lenS v = some l.length
 out : outV (some v) = some v
 get : ∀ (k : Nat) (p : Held), l[k]? = some p → ∀ hp : Heap, (∀ id, id < h.next → hp.get id = h.get id) → ∃ ptr, indexAddrV Tryz.prog hp 173 v (.int .i64 ↑k) = some ptr ∧ ∀ f rnd e lm df up, (Fr.mk f rnd e lm hp df up).mem ptr = some ([.int .i64 p.b, .int .i64 p.x.lo, .int .i64 p.x.hi, .int .i64 p.y.lo, .int .i64 p.y.hi], 0)
theorem rdH_sl {h : Heap} {a : AV} {l : List Held} (q : slV heldC a = some l) : RdH h a l :=
 ⟨sl_len q, sl_out q, fun k p hp H _ => ⟨_, held_idx q hp H, fun f rnd e lm df up => mem_vptr ..⟩⟩
theorem rdH_row {h : Heap} {id off : Nat} {el : List AV} {l : List Held} (hg : h.get id = some (.rw 5 el)) (hid : id < h.next) (hl : (el.drop off).take l.length = l.map heldC.enc) (hle : off + l.length ≤ el.length) : RdH h (.row id off l.length) l := by
 refine ⟨by simp [lenS], rfl, fun k p hk hp hx => ?_⟩
 have hkl : k < l.length := (List.getElem?_eq_some_iff.1 hk).1
 have hg' := (hx id hid).trans hg
 have hi : idxV (.int .i64 ↑k) l.length = some k := by simp [idxV, hkl]
 refine ⟨.eptr id 5 (off + k) 0, ?_, fun f rnd e lm df up => ?_⟩
 ·simp only [indexAddrV, Tryz.underlying173, ty_lay176, hi, hg', if_true]
 ·have he : el[off + k]? = some (heldC.enc p) := by
   have : ((el.drop off).take l.length)[k]? = some (heldC.enc p) := by rw [hl]; simp [hk]
   rw [List.getElem?_take, if_pos hkl, List.getElem?_drop] at this
   exact this
  rw [mem_eptr]
  simp only [hg', he, if_true, heldC, AV.cells]
def ax0 (cx wx : Sp) (rs : List Rdg) (hs : List Held) : Ax := ⟨cx, wx, lims155 rs ++ hs.map fun p => (⟨p.b, p.x.lo, p.x.hi⟩ : Lim)⟩
def ax1 (cy wy : Sp) (rs : List Rdg) (hs : List Held) : Ax := ⟨cy, wy, lims156 rs ++ hs.map fun p => (⟨p.b, p.y.lo, p.y.hi⟩ : Lim)⟩
def knO : Option (List Sp) → Option (List Sp) → AV
 | some a, some b => .tuple [.agg [slN (a.map spC.enc), slN (b.map spC.enc)], .bool true]
 | _, _ => .tuple [.agg [.nilslice, .nilslice], .bool false]
theorem knO_no1 (x : Option (List Sp)) : knO none x = .tuple [.agg [.nilslice, .nilslice], .bool false] := by cases x <;> rfl
theorem knO_no2 (x : Option (List Sp)) : knO x none = .tuple [.agg [.nilslice, .nilslice], .bool false] := by cases x <;> rfl
def knV (A B : Ax) : AV := knO (boundsS A) (boundsS B)
theorem knV_def (A B : Ax) : knV A B = knO (boundsS A) (boundsS B) := rfl
def isKn (A B : Ax) (h : Heap) (r : COut) : Prop := ∃ h', (h.next ≤ h'.next ∧ ∀ id, id < h.next → h'.get id = h.get id) ∧ r = .ret (knV A B) h' none
def bOk (A : Ax) (v : AV) : Prop := ∃ o, boundsS A = some o ∧ v = slN (o.map spC.enc)
attribute [local irreducible] boundsS
theorem bOk.out {A : Ax} {v : AV} (h : bOk A v) : outV (some v) = some v ∧ (∀ H, frz1 H v = some (v, H)) ∧ v.cells = [v] ∧ isTuple v = false := by
 obtain ⟨o, _, rfl⟩ := h
 cases o <;> exact ⟨rfl, fun _ => rfl, rfl, rfl⟩
theorem knV_ok {A B : Ax} {a b : AV} (h : bOk A a) (k : bOk B b) : knV A B = .tuple [.agg [a, b], .bool true] := by
 obtain ⟨o, e, rfl⟩ := h
 obtain ⟨p, f, rfl⟩ := k
 rw [knV_def, e, f]; rfl
theorem knV_no1 {A B : Ax} (h : boundsS A = none) : knV A B = .tuple [.agg [.nilslice, .nilslice], .bool false] := by
 rw [knV_def, h, knO_no1]
theorem knV_no2 {A B : Ax} (h : boundsS B = none) : knV A B = .tuple [.agg [.nilslice, .nilslice], .bool false] := by
 rw [knV_def, h, knO_no2]
theorem ia169_0 (H : Heap) (s : Tmp) (g off : Nat) : indexAddrV Tryz.prog H 169 (.lptr s g off) (.int .i64 0) = some (.lptr s g off) := by
 simp only [indexAddrV, Tryz.underlying169, ty_lay48]; rfl
theorem ia169_1 (H : Heap) (s : Tmp) (g off : Nat) : indexAddrV Tryz.prog H 169 (.lptr s g off) (.int .i64 1) = some (.lptr s g (off + 2)) := by
 simp only [indexAddrV, Tryz.underlying169, ty_lay48]; rfl
theorem ia147_0 (H : Heap) (id off : Nat) : indexAddrV Tryz.prog H 147 (.ptr id off) (.int .i64 0) = some (.ptr id off) := by
 simp only [indexAddrV, Tryz.underlying147, ty_lay146]; rfl
theorem ia147_1 (H : Heap) (id off : Nat) : indexAddrV Tryz.prog H 147 (.ptr id off) (.int .i64 1) = some (.ptr id (off + 1)) := by
 simp only [indexAddrV, Tryz.underlying147, ty_lay146]; rfl
def stg (A B : Ax) (k : Nat) (a b : AV) : Prop := (if 1 ≤ k then bOk A a else a = .nilslice) ∧ (if 2 ≤ k then bOk B b else b = .nilslice)
set_option maxHeartbeats 1600000 in
theorem C103 (hc : c 103 = none) (hc5 : c 155 = none) (hc6 : c 156 = none) (hc7 : c 157 = none) (hc9 : c 191 = none) (hc2 : c 190 = some (pureFn sp190)) (sa mv ra ma : AV) (cx cy wx wy : Sp) (rs : List Rdg) (hs : List Held) (n : Nat) (m : Mp Blk) (hr : slV rdgC ra = some rs) (hm : RdH ⟨n, m⟩ ma hs) (hsum : rs.length + hs.length ≤ maxL) (hsa : sa.one = true) (hmv : mv.one = true) :
  ClR (dX c) 103 [.agg [sa, .int .i64 cx.lo, .int .i64 cx.hi, .int .i64 cy.lo, .int .i64 cy.hi, .int .i64 wx.lo, .int .i64 wx.hi, .int .i64 wy.lo, .int .i64 wy.hi, ra, mv], ma] ⟨n, m⟩ (isKn (ax0 cx wx rs hs) (ax1 cy wy rs hs) ⟨n, m⟩) := by
 have hlen := hm.len
 have hout := hm.out
 have hro := sl_out hr
 have HR := Lib.hid hr
 have HM := Lib.hid hm
 have hne1 : (n == n + 1) = false := by simp
 have hne2 : (n + 1 == n) = false := by simp
 clear hr hm
 refine ClR.walkD (c := _) hc Tryz.func103 rfl (by kernel_rfl) rfl ?_
 simp only [entryEnv, Nat.reduceAdd]
 repeat' (first | (apply U5; exact rfl; (focus (intro cl rd; simp only [go_sem, *, Nat.reduceLT, Int.reduceEq, Int.reduceBEq, Int.reduceLE, Int.reduceLT, Nat.reduceAdd, Nat.reduceBEq, Nat.reduceEqDiff, reduceIte, Nat.reduceLeDiff, Nat.reduceMul, Nat.reduceSub, reduceCtorEq, efV, Fr.deferE]; with_reducible rfl)); simp only [pM, pN]) | (apply W.drawQ (id := 9) (l1 := [0, 1, 2, 3, 4, 5, 6, 7, 8, 9]) (l2 := [10, 11, 12]); kernel_rfl; kernel_rfl; kernel_rfl; exact Z4) | refine go1 ?_ | refine go2 (fun hh => ?_) (fun hh => ?_) | fail)
 refine W.loopN 2 (fun k F => ∃ e lm pn pm a b, F = Fr.mk 103 false e lm ⟨pn, pm⟩ [(.func (.func 154) [] [.ptr n 0, .ptr (n + 1) 0], [])] none ∧ stg (ax0 cx wx rs hs) (ax1 cy wy rs hs) k a b ∧ pm.get n = some (.var [a, b]) ∧ pm.get (n + 1) = some (.var [.bool false]) ∧ (n + 2 ≤ pn ∧ ∀ id, id < n → pm.get id = m.get id) ∧
  e.get 1 = some ma ∧ e.get 4 = some (.ptr n 0) ∧ e.get 5 = some (.ptr (n + 1) 0) ∧ e.get 17 = some (.agg [.func (.func 155) [.agg [sa, .int .i64 cx.lo, .int .i64 cx.hi, .int .i64 cy.lo, .int .i64 cy.hi, .int .i64 wx.lo, .int .i64 wx.hi, .int .i64 wy.lo, .int .i64 wy.hi, ra, mv]] [], .func (.func 156) [.agg [sa, .int .i64 cx.lo, .int .i64 cx.hi, .int .i64 cy.lo, .int .i64 cy.hi, .int .i64 wx.lo, .int .i64 wx.hi, .int .i64 wy.lo, .int .i64 wy.hi, ra, mv]] []]) ∧ e.get 18 = some (.int .i64 ↑k) ∧ k ≤ 2) ?_ ?_
 ·have hinit : ∀ id, id < n → ((m.set n (Blk.var [.nilslice, .nilslice])).set (n + 1) (.var [.bool false])).get id = m.get id := by
   intro id hid
   have e1 : (n == id) = false := by rw [beq_eq_false_iff_ne]; omega
   have e2 : (n + 1 == id) = false := by rw [beq_eq_false_iff_ne]; omega
   rw [get_set_lit _ _ _ _ e2, get_set_lit _ _ _ _ e1]
  refine ⟨_, _, _, _, .nilslice, .nilslice, rfl, by simp [stg], ?_, ?_, ⟨by omega, hinit⟩, ?_, ?_, ?_, ?_, ?_, ?_⟩
  clear hinit
  all_goals first | exact Z2 | (intro id hid; have e1 : (n == id) = false := by rw [beq_eq_false_iff_ne]; omega; have e2 : (n + 1 == id) = false := by rw [beq_eq_false_iff_ne]; omega; simp only [go_sem, *, Nat.reduceLT, Int.reduceEq, Int.reduceBEq, Int.reduceLE, Int.reduceLT, Nat.reduceAdd, Nat.reduceBEq, Nat.reduceEqDiff, reduceIte, Nat.reduceLeDiff, Nat.reduceMul, Nat.reduceSub, reduceCtorEq]; done) | simp [go_sem, *]
 rintro k F ⟨e, lm, pn, pm, a, b, rfl, hst, hg, hg1, hpx, h1, h4, h5, h17, h18, hk⟩
 have hk3 : k = 0 ∨ k = 1 ∨ k = 2 := by omega
 rcases hk3 with rfl | rfl | rfl
 ·replace h18 : e.get 18 = some (.int .i64 0) := h18
  have hw0 : IntKind.i64.wrap (0 + 1) = 1 := by decide
  have hiv : idxV (.int .i64 0) 2 = some 0 := rfl
  have hia := ia169_0
  have hib := ia147_0
  have hw1 : IntKind.i64.wrap 1 = 1 := by decide
  have hc1 := C155 c hc5 hc2 sa mv ra cx cy wx wy rs ⟨pn, pm⟩ HR.out hsa hmv
  unfold ClR isAx at hc1
  obtain ⟨r, hcl, hq, u, rfl, hB, hX⟩ := hc1
  obtain ⟨rfl, rfl⟩ : a = .nilslice ∧ b = .nilslice := by simpa [stg] using hst
  have HA : RowKit.Hid True := Lib.hid trivial
  clear hst
  have HG := Lib.hid hg
  have HG1 := Lib.hid hg1
  clear hg hg1
  repeat' (first | (apply W.drawQ (id := 9) (l1 := [0, 1, 2, 3, 4, 5, 6, 7, 8, 9]) (l2 := [10, 11, 12]); kernel_rfl; kernel_rfl; kernel_rfl; exact Z4) | refine go1 ?_ | (apply U6; exact Z1; exact Z1; (focus (simp only [List.nil_append, List.append_nil]; first | exact hcl)); simp only [pM, pN, rR, rP]) | refine go2 (fun hh => ?_) (fun hh => ?_) | fail)
  refine W.loopN hs.length (fun j F => ∃ e lm hq u g, F = Fr.mk 103 false e lm hq [(.func (.func 154) [] [.ptr n 0, .ptr (n + 1) 0], [])] none ∧ BltN pn hq u 3 ((lims155 rs ++ (hs.take j).map fun p => (⟨p.b, p.x.lo, p.x.hi⟩ : Lim)).map limC.enc) ∧ (pn ≤ hq.next ∧ ∀ id, id < pn → hq.get id = (Heap.mk pn pm).get id) ∧
   lm.get 8 = some (g, [.int .i64 cx.lo, .int .i64 cx.hi, .int .i64 wx.lo, .int .i64 wx.hi, u]) ∧ e.get 8 = some (.lptr 8 g 0) ∧ e.get 1 = some ma ∧ e.get 4 = some (.ptr n 0) ∧ e.get 5 = some (.ptr (n + 1) 0) ∧ e.get 17 = some (.agg [.func (.func 155) [.agg [sa, .int .i64 cx.lo, .int .i64 cx.hi, .int .i64 cy.lo, .int .i64 cy.hi, .int .i64 wx.lo, .int .i64 wx.hi, .int .i64 wy.lo, .int .i64 wy.hi, ra, mv]] [], .func (.func 156) [.agg [sa, .int .i64 cx.lo, .int .i64 cx.hi, .int .i64 cy.lo, .int .i64 cy.hi, .int .i64 wx.lo, .int .i64 wx.hi, .int .i64 wy.lo, .int .i64 wy.hi, ra, mv]] []]) ∧
   e.get 6 = some (.int .i64 0) ∧ e.get 18 = some (.int .i64 0) ∧ e.get 24 = some ma ∧ e.get 25 = some (.int .i64 ↑hs.length) ∧ e.get 26 = some (.int .i64 ↑j) ∧ j ≤ hs.length) ?_ ?_
  ·refine ⟨_, _, _, _, nextGen lm 8, rfl, by simpa using hB, hX, ?_, ?_, ?_, ?_, ?_, ?_, ?_, ?_, ?_, ?_, ?_, ?_⟩ <;> first | (simp only [nextGen, go_sem, *, Nat.reduceLT, Int.reduceEq, Int.reduceBEq, Int.reduceLE, Int.reduceLT, Nat.reduceAdd, Nat.reduceBEq, Nat.reduceEqDiff, reduceIte, Nat.reduceLeDiff, Nat.reduceMul, Nat.reduceSub, reduceCtorEq]; done) | simp [nextGen, go_sem, *, Nat.reduceLT, Int.reduceEq, Int.reduceBEq, Int.reduceLE, Int.reduceLT, Nat.reduceAdd, Nat.reduceBEq, Nat.reduceEqDiff, reduceIte, Nat.reduceLeDiff, Nat.reduceMul, Nat.reduceSub, reduceCtorEq]
  clear hcl hB hX h1 h4 h5 h17 h18
  rintro j F ⟨e, lm, hq, u, g, rfl, hB, hX, hl8, h8, h1, h4, h5, h17, h6, h18, h24, h25, h26, hj⟩
  have hbo := hB.blt.out
  have hbc := hB.blt.cells
  have hbt := hB.blt.tup
  by_cases hlt : j < hs.length
  ·obtain ⟨p, hp'⟩ := get_some hlt
   obtain ⟨ptr, hptr, hmem⟩ := HM.out.get j p hp' hq (fun id hid => (hX.2 id (by have := hpx.1; simp only at hid; omega)).trans (hpx.2 id hid))
   have hd : decide ((j : Int) < (hs.length : Int)) = true := by simpa using hlt
   have hw := wrap_succ hlt (show hs.length ≤ maxL by omega)
   have hnx : (lims155 rs ++ (hs.take (j + 1)).map fun p => (⟨p.b, p.x.lo, p.x.hi⟩ : Lim)) = (lims155 rs ++ (hs.take j).map fun p => (⟨p.b, p.x.lo, p.x.hi⟩ : Lim)) ++ [(⟨p.b, p.x.lo, p.x.hi⟩ : Lim)] := by rw [take_next hp']; simp
   have hll : (((lims155 rs ++ (hs.take j).map fun p => (⟨p.b, p.x.lo, p.x.hi⟩ : Lim))).map limC.enc).length + 1 ≤ most := by
    simp only [lims155, List.length_map, List.length_append, List.length_take]; unfold most; unfold maxL at hsum; omega
   have HN := Lib.hid hnx
   clear hp' hnx
   repeat' (first | (apply W.drawQ (id := 9) (l1 := [0, 1, 2, 3, 4, 5, 6, 7, 8, 9]) (l2 := [10, 11, 12]); kernel_rfl; kernel_rfl; kernel_rfl; exact Z4) | (apply WO1.appendN (t := 226) (u := 226) (e := 230) (e' := 230) (sz := 3) (tl := []) (b := pn) (h0 := ⟨pn, pm⟩) (hb := hB) (hx := hX); exact Z1; exact rfl; (focus exact Z2); (focus exact Z2); (focus exact Z2); (focus (exact ty_row226)); exact Z1; (focus (intro v hv; simp at hv; rcases hv with rfl | rfl <;> rfl)); (focus (simp only [List.length_cons, List.length_nil]; exact hll)); (focus (simp)); (intro v' h' hB' ho' hX'; have hcc' := hB'.blt.cells; have htt' := hB'.blt.tup; simp only [AV.cells] at hcc'; simp only [isTuple] at htt'; simp only [pM, pN])) | refine go1 ?_ | refine go2 (fun hh => ?_) (fun hh => ?_) | fail)
   refine ⟨hlt, _, _, _, v', g, rfl, ?_, hX', ?_, ?_, ?_, ?_, ?_, ?_, ?_, ?_, ?_, ?_, ?_, by omega⟩
   ·rw [HN.out]; simpa [limC] using hB'
   all_goals exact Z2
  ·have hd : decide ((j : Int) < (hs.length : Int)) = false := by simpa using hlt
   have hjl : j = hs.length := by omega
   rw [hjl, List.take_length] at hB
   have hc1 := C157 c hc7 hc9 (ax0 cx wx rs hs) u hq (hB.rdl (by simp [lims155]; exact hsum))
   unfold ClR isBnd at hc1
   obtain ⟨r, hcl, hz, hzx, hzm⟩ := hc1
   have hcl : Cl (dX c) 157 [.agg [.int .i64 cx.lo, .int .i64 cx.hi, .int .i64 wx.lo, .int .i64 wx.hi, u]] hq r := hcl
   obtain ⟨zn, zm⟩ := hz
   have hzn : pn ≤ zn := Nat.le_trans hX.1 hzx.1
   have hzg : ∀ id, id < pn → zm.get id = pm.get id := fun id hid => (hzx.2 id (Nat.lt_of_lt_of_le hid hX.1)).trans (hX.2 id hid)
   have hg := (hzg n (by omega)).trans HG.out
   have hg1 := (hzg (n + 1) (by omega)).trans HG1.out
   have HZG := Lib.hid hzg
   clear hjl hX hzx hzg
   cases hbs : boundsS (ax0 cx wx rs hs) with
   | some o =>
    rw [hbs] at hzm
    have hva : bOk (ax0 cx wx rs hs) (slN (o.map spC.enc)) := ⟨o, hbs, rfl⟩
    simp only at hzm
    subst hzm
    generalize slN (o.map spC.enc) = va at hcl hva
    obtain ⟨hvo, hvf, hvc, hvt⟩ := hva.out
    simp only [AV.cells] at hvc
    simp only [isTuple] at hvt
    have hva := Lib.hid hva
    clear hbs
    repeat' (first | (apply W.drawQ (id := 9) (l1 := [0, 1, 2, 3, 4, 5, 6, 7, 8, 9]) (l2 := [10, 11, 12]); kernel_rfl; kernel_rfl; kernel_rfl; exact Z4) | refine go1 ?_ | (apply U6; exact Z1; exact Z1; (focus (simp only [List.nil_append, List.append_nil]; first | exact hcl)); simp only [pM, pN, rR, rP]) | refine go2 (fun hh => ?_) (fun hh => ?_) | fail)
    have hini : ∀ v id, id < n → (zm.set n v).get id = m.get id := by
     intro v id hid
     have e1 : (n == id) = false := by rw [beq_eq_false_iff_ne]; omega
     rw [get_set_lit _ _ _ _ e1, HZG.out id (by omega)]
     exact hpx.2 id hid
    refine ⟨by omega, _, _, _, _, va, .nilslice, rfl, by simp [stg]; exact hva.out, ?_, ?_, ⟨by omega, hini _⟩, ?_, ?_, ?_, ?_, ?_, by omega⟩
    all_goals (clear hini; first | exact Z2 | simp [go_sem, *])
   | none =>
    rw [hbs] at hzm
    obtain ⟨bb, hzm⟩ := hzm
    subst hzm
    have HBS := Lib.hid hbs
    clear hbs
    repeat' (first | (apply W.drawQ (id := 9) (l1 := [0, 1, 2, 3, 4, 5, 6, 7, 8, 9]) (l2 := [10, 11, 12]); kernel_rfl; kernel_rfl; kernel_rfl; exact Z4) | (simp only [endD_pan]) | refine go1 ?_ | (apply U6; exact Z1; exact Z1; (focus (simp only [List.nil_append, List.append_nil]; first | exact hcl)); simp only [pM, pN, rR, rP]) | refine go2 (fun hh => ?_) (fun hh => ?_) | fail)
    refine D154p c n zn zm .nilslice .nilslice bb _ hg hg1 fun m' q1 q2 q3 => afterD_none.2 ⟨⟨zn, m'⟩, ⟨by simp only; omega, fun id hid => (q3 id hid).trans ((HZG.out id (by simp only at hid; omega)).trans (hpx.2 id hid))⟩, ?_⟩
    rw [knV_no1 HBS.out]
    (simp only [resV_def (X := dX c) Tryz.func103, Tryz.results103]; first | exact J5 | refine J6 ?_)
 ·replace h18 : e.get 18 = some (.int .i64 1) := h18
  have hw0 : IntKind.i64.wrap (1 + 1) = 2 := by decide
  have hiv : idxV (.int .i64 1) 2 = some 1 := rfl
  have hia := ia169_1
  have hib := ia147_1
  have hw1 : IntKind.i64.wrap 2 = 2 := by decide
  have hc1 := C156 c hc6 hc2 sa mv ra cx cy wx wy rs ⟨pn, pm⟩ HR.out hsa hmv
  unfold ClR isAx at hc1
  obtain ⟨r, hcl, hq, u, rfl, hB, hX⟩ := hc1
  obtain ⟨hA, rfl⟩ : bOk (ax0 cx wx rs hs) a ∧ b = .nilslice := by simpa [stg] using hst
  obtain ⟨hao, hafz, hac, hat⟩ := hA.out
  simp only [AV.cells] at hac
  simp only [isTuple] at hat
  have HA := Lib.hid hA
  clear hA
  clear hst
  have HG := Lib.hid hg
  have HG1 := Lib.hid hg1
  clear hg hg1
  repeat' (first | (apply W.drawQ (id := 9) (l1 := [0, 1, 2, 3, 4, 5, 6, 7, 8, 9]) (l2 := [10, 11, 12]); kernel_rfl; kernel_rfl; kernel_rfl; exact Z4) | refine go1 ?_ | (apply U6; exact Z1; exact Z1; (focus (simp only [List.nil_append, List.append_nil]; first | exact hcl)); simp only [pM, pN, rR, rP]) | refine go2 (fun hh => ?_) (fun hh => ?_) | fail)
  refine W.loopN hs.length (fun j F => ∃ e lm hq u g, F = Fr.mk 103 false e lm hq [(.func (.func 154) [] [.ptr n 0, .ptr (n + 1) 0], [])] none ∧ BltN pn hq u 3 ((lims156 rs ++ (hs.take j).map fun p => (⟨p.b, p.y.lo, p.y.hi⟩ : Lim)).map limC.enc) ∧ (pn ≤ hq.next ∧ ∀ id, id < pn → hq.get id = (Heap.mk pn pm).get id) ∧
   lm.get 8 = some (g, [.int .i64 cy.lo, .int .i64 cy.hi, .int .i64 wy.lo, .int .i64 wy.hi, u]) ∧ e.get 8 = some (.lptr 8 g 0) ∧ e.get 1 = some ma ∧ e.get 4 = some (.ptr n 0) ∧ e.get 5 = some (.ptr (n + 1) 0) ∧ e.get 17 = some (.agg [.func (.func 155) [.agg [sa, .int .i64 cx.lo, .int .i64 cx.hi, .int .i64 cy.lo, .int .i64 cy.hi, .int .i64 wx.lo, .int .i64 wx.hi, .int .i64 wy.lo, .int .i64 wy.hi, ra, mv]] [], .func (.func 156) [.agg [sa, .int .i64 cx.lo, .int .i64 cx.hi, .int .i64 cy.lo, .int .i64 cy.hi, .int .i64 wx.lo, .int .i64 wx.hi, .int .i64 wy.lo, .int .i64 wy.hi, ra, mv]] []]) ∧
   e.get 6 = some (.int .i64 1) ∧ e.get 18 = some (.int .i64 1) ∧ e.get 24 = some ma ∧ e.get 25 = some (.int .i64 ↑hs.length) ∧ e.get 26 = some (.int .i64 ↑j) ∧ j ≤ hs.length) ?_ ?_
  ·refine ⟨_, _, _, _, nextGen lm 8, rfl, by simpa using hB, hX, ?_, ?_, ?_, ?_, ?_, ?_, ?_, ?_, ?_, ?_, ?_, ?_⟩ <;> first | (simp only [nextGen, go_sem, *, Nat.reduceLT, Int.reduceEq, Int.reduceBEq, Int.reduceLE, Int.reduceLT, Nat.reduceAdd, Nat.reduceBEq, Nat.reduceEqDiff, reduceIte, Nat.reduceLeDiff, Nat.reduceMul, Nat.reduceSub, reduceCtorEq]; done) | simp [nextGen, go_sem, *, Nat.reduceLT, Int.reduceEq, Int.reduceBEq, Int.reduceLE, Int.reduceLT, Nat.reduceAdd, Nat.reduceBEq, Nat.reduceEqDiff, reduceIte, Nat.reduceLeDiff, Nat.reduceMul, Nat.reduceSub, reduceCtorEq]
  clear hcl hB hX h1 h4 h5 h17 h18
  rintro j F ⟨e, lm, hq, u, g, rfl, hB, hX, hl8, h8, h1, h4, h5, h17, h6, h18, h24, h25, h26, hj⟩
  have hbo := hB.blt.out
  have hbc := hB.blt.cells
  have hbt := hB.blt.tup
  by_cases hlt : j < hs.length
  ·obtain ⟨p, hp'⟩ := get_some hlt
   obtain ⟨ptr, hptr, hmem⟩ := HM.out.get j p hp' hq (fun id hid => (hX.2 id (by have := hpx.1; simp only at hid; omega)).trans (hpx.2 id hid))
   have hd : decide ((j : Int) < (hs.length : Int)) = true := by simpa using hlt
   have hw := wrap_succ hlt (show hs.length ≤ maxL by omega)
   have hnx : (lims156 rs ++ (hs.take (j + 1)).map fun p => (⟨p.b, p.y.lo, p.y.hi⟩ : Lim)) = (lims156 rs ++ (hs.take j).map fun p => (⟨p.b, p.y.lo, p.y.hi⟩ : Lim)) ++ [(⟨p.b, p.y.lo, p.y.hi⟩ : Lim)] := by rw [take_next hp']; simp
   have hll : (((lims156 rs ++ (hs.take j).map fun p => (⟨p.b, p.y.lo, p.y.hi⟩ : Lim))).map limC.enc).length + 1 ≤ most := by
    simp only [lims156, List.length_map, List.length_append, List.length_take]; unfold most; unfold maxL at hsum; omega
   have HN := Lib.hid hnx
   clear hp' hnx
   repeat' (first | (apply W.drawQ (id := 9) (l1 := [0, 1, 2, 3, 4, 5, 6, 7, 8, 9]) (l2 := [10, 11, 12]); kernel_rfl; kernel_rfl; kernel_rfl; exact Z4) | (apply WO1.appendN (t := 226) (u := 226) (e := 230) (e' := 230) (sz := 3) (tl := []) (b := pn) (h0 := ⟨pn, pm⟩) (hb := hB) (hx := hX); exact Z1; exact rfl; (focus exact Z2); (focus exact Z2); (focus exact Z2); (focus (exact ty_row226)); exact Z1; (focus (intro v hv; simp at hv; rcases hv with rfl | rfl <;> rfl)); (focus (simp only [List.length_cons, List.length_nil]; exact hll)); (focus (simp)); (intro v' h' hB' ho' hX'; have hcc' := hB'.blt.cells; have htt' := hB'.blt.tup; simp only [AV.cells] at hcc'; simp only [isTuple] at htt'; simp only [pM, pN])) | refine go1 ?_ | refine go2 (fun hh => ?_) (fun hh => ?_) | fail)
   refine ⟨hlt, _, _, _, v', g, rfl, ?_, hX', ?_, ?_, ?_, ?_, ?_, ?_, ?_, ?_, ?_, ?_, ?_, by omega⟩
   ·rw [HN.out]; simpa [limC] using hB'
   all_goals exact Z2
  ·have hd : decide ((j : Int) < (hs.length : Int)) = false := by simpa using hlt
   have hjl : j = hs.length := by omega
   rw [hjl, List.take_length] at hB
   have hc1 := C157 c hc7 hc9 (ax1 cy wy rs hs) u hq (hB.rdl (by simp [lims156]; exact hsum))
   unfold ClR isBnd at hc1
   obtain ⟨r, hcl, hz, hzx, hzm⟩ := hc1
   have hcl : Cl (dX c) 157 [.agg [.int .i64 cy.lo, .int .i64 cy.hi, .int .i64 wy.lo, .int .i64 wy.hi, u]] hq r := hcl
   obtain ⟨zn, zm⟩ := hz
   have hzn : pn ≤ zn := Nat.le_trans hX.1 hzx.1
   have hzg : ∀ id, id < pn → zm.get id = pm.get id := fun id hid => (hzx.2 id (Nat.lt_of_lt_of_le hid hX.1)).trans (hX.2 id hid)
   have hg := (hzg n (by omega)).trans HG.out
   have hg1 := (hzg (n + 1) (by omega)).trans HG1.out
   have HZG := Lib.hid hzg
   clear hjl hX hzx hzg
   cases hbs : boundsS (ax1 cy wy rs hs) with
   | some o =>
    rw [hbs] at hzm
    have hva : bOk (ax1 cy wy rs hs) (slN (o.map spC.enc)) := ⟨o, hbs, rfl⟩
    simp only at hzm
    subst hzm
    generalize slN (o.map spC.enc) = va at hcl hva
    obtain ⟨hvo, hvf, hvc, hvt⟩ := hva.out
    simp only [AV.cells] at hvc
    simp only [isTuple] at hvt
    have hva := Lib.hid hva
    clear hbs
    repeat' (first | (apply W.drawQ (id := 9) (l1 := [0, 1, 2, 3, 4, 5, 6, 7, 8, 9]) (l2 := [10, 11, 12]); kernel_rfl; kernel_rfl; kernel_rfl; exact Z4) | refine go1 ?_ | (apply U6; exact Z1; exact Z1; (focus (simp only [List.nil_append, List.append_nil]; first | exact hcl)); simp only [pM, pN, rR, rP]) | refine go2 (fun hh => ?_) (fun hh => ?_) | fail)
    have hini : ∀ v id, id < n → (zm.set n v).get id = m.get id := by
     intro v id hid
     have e1 : (n == id) = false := by rw [beq_eq_false_iff_ne]; omega
     rw [get_set_lit _ _ _ _ e1, HZG.out id (by omega)]
     exact hpx.2 id hid
    refine ⟨by omega, _, _, _, _, a, va, rfl, by simp [stg]; exact ⟨HA.out, hva.out⟩, ?_, ?_, ⟨by omega, hini _⟩, ?_, ?_, ?_, ?_, ?_, by omega⟩
    all_goals (clear hini; first | exact Z2 | simp [go_sem, *])
   | none =>
    rw [hbs] at hzm
    obtain ⟨bb, hzm⟩ := hzm
    subst hzm
    have HBS := Lib.hid hbs
    clear hbs
    repeat' (first | (apply W.drawQ (id := 9) (l1 := [0, 1, 2, 3, 4, 5, 6, 7, 8, 9]) (l2 := [10, 11, 12]); kernel_rfl; kernel_rfl; kernel_rfl; exact Z4) | (simp only [endD_pan]) | refine go1 ?_ | (apply U6; exact Z1; exact Z1; (focus (simp only [List.nil_append, List.append_nil]; first | exact hcl)); simp only [pM, pN, rR, rP]) | refine go2 (fun hh => ?_) (fun hh => ?_) | fail)
    refine D154p c n zn zm a .nilslice bb _ hg hg1 fun m' q1 q2 q3 => afterD_none.2 ⟨⟨zn, m'⟩, ⟨by simp only; omega, fun id hid => (q3 id hid).trans ((HZG.out id (by simp only at hid; omega)).trans (hpx.2 id hid))⟩, ?_⟩
    rw [knV_no2 HBS.out]
    (simp only [resV_def (X := dX c) Tryz.func103, Tryz.results103]; first | exact J5 | refine J6 ?_)
 ·replace h18 : e.get 18 = some (.int .i64 2) := h18
  obtain ⟨hA, hB⟩ : bOk (ax0 cx wx rs hs) a ∧ bOk (ax1 cy wy rs hs) b := by simpa [stg] using hst
  obtain ⟨hao, hafz, hac, hat⟩ := hA.out
  obtain ⟨hbo, hbfz, hbc, hbt⟩ := hB.out
  have HA := Lib.hid hA
  have HB := Lib.hid hB
  have HPX := Lib.hid hpx
  clear hst hA hB hpx
  repeat' (first | (apply W.drawQ (id := 9) (l1 := [0, 1, 2, 3, 4, 5, 6, 7, 8, 9]) (l2 := [10, 11, 12]); kernel_rfl; kernel_rfl; kernel_rfl; exact Z4) | (refine Y7 ?_; simp only [endD_ret]) | refine go1 ?_ | refine go2 (fun hh => ?_) (fun hh => ?_) | fail)
  refine D154n c n _ _ _ ?_
  refine afterD_none.2 ⟨⟨pn, (pm.set n (.var [a, b])).set (n + 1) (.var [.bool true])⟩, ?_, ?_⟩
  rotate_left
  ·rw [knV_ok HA.out HB.out]
   (simp only [resV_def (X := dX c) Tryz.func103, Tryz.results103]; first | exact J5 | refine J6 ?_)
  ·refine ⟨by simp only; have := HPX.out.1; omega, fun id hid => ?_⟩
   have hid : id < n := hid
   have e1 : (n == id) = false := by rw [beq_eq_false_iff_ne]; omega
   have e2 : (n + 1 == id) = false := by rw [beq_eq_false_iff_ne]; omega
   rw [hp_get, hp_get, get_set_lit _ _ _ _ e2, get_set_lit _ _ _ _ e1]
   exact HPX.out.2 id hid
end Go.AM
namespace Go.AM
open Go Go.Proofs
variable [Keep]
attribute [local irreducible] W WO WO1 WD WQ WT thenQ blockQ endR isRet retK Cl ClR
def sp103 : List AV → Option AV
 | [.agg [sa, .int .i64 cxl, .int .i64 cxh, .int .i64 cyl, .int .i64 cyh, .int .i64 wxl, .int .i64 wxh, .int .i64 wyl, .int .i64 wyh, ra, mv], ma] =>
  match slV rdgC ra, slV heldC ma with
  | some rs, some hs => if (Nat.ble (rs.length + hs.length) maxL && sa.one && mv.one) = true then some (knV (ax0 ⟨cxl, cxh⟩ ⟨wxl, wxh⟩ rs hs) (ax1 ⟨cyl, cyh⟩ ⟨wyl, wyh⟩ rs hs)) else none
  | _, _ => none
 | _ => none
theorem slN_purL {l : List AV} (h : ∀ a ∈ l, a.pur = true) : (slN l).pur = true := by
 cases l with
 | nil => rfl
 | cons a l => exact purL_mem.2 h
theorem spL_pur (l : List Sp) : (slN (l.map spC.enc)).pur = true := slN_purL fun a ha => by
 obtain ⟨p, _, rfl⟩ := List.mem_map.1 ha
 rfl
theorem knV_pur (A B : Ax) : (knV A B).pur = true := by
 rw [knV_def]
 cases h1 : boundsS A <;> cases h2 : boundsS B <;> simp only [knO, AV.pur, AV.purL, spL_pur, Bool.and_self]
theorem p103 : ∀ args v, sp103 args = some v → v.pur = true := by
 intro args v h
 unfold sp103 at h
 split at h
 ·split at h
  ·split at h
   ·cases h; exact knV_pur _ _
   ·cases h
  ·cases h
 ·cases h
noncomputable def cN : FuncId → Option (List AV → Heap → Option (AV × Heap))
 | 190 => some (pureFn sp190)
 | _ => none
theorem cN_sound : Sound (dX cN) := dX_sound (fun f g h => by
 unfold cN at h
 split at h
 ·cases h; exact F190
 ·cases h)
end Go.AM
namespace Go.AM
open Go Go.Proofs
variable [Keep]
end Go.AM
namespace Go.AM
open Go Go.Proofs
variable [Keep]
def onHeap (spec : List AV → Heap → Option AV) : List AV → Heap → Option (AV × Heap) := fun args h => match spec args h with | some v => some (v, h) | none => none
def Part (m : Mp Blk) (h : Heap) : Prop := ∀ id b, m.get id = some b → h.get id = some b ∧ ∃ sz el, b = .rw sz el ∧ ∀ e ∈ el, e.pur = true
theorem BR.pur {C D : Cfg} {w : World} {L : Loc} {sz : Nat} {el : List AV} (k : BR C w L (.rw sz el)) (hs : ∀ x u, C.sig x = some u → D.sig x = some u) (hp : ∀ e ∈ el, e.pur = true) : BR D w L (.rw sz el) := by
 obtain ⟨c, h1, h2, h3, h4, h5⟩ := k
 refine ⟨c, h1, h2, h3, h4, fun i e hi => ?_⟩
 obtain ⟨g1, g2, g3⟩ := h5 i e hi
 refine ⟨g1, g2, fun j x hj => ?_⟩
 obtain ⟨v, k1, k2⟩ := g3 j x hj
 refine ⟨v, k1, k2.pur hs ?_⟩
 have hjl := (List.getElem?_eq_some_iff.1 hj).1
 have := pur_cells (hp e (List.mem_of_getElem? hi)) hjl
 simpa [List.getD, hj] using this
theorem WR.part {C : Cfg} {h : Heap} {w : World} (r : WR C h w) {m : Mp Blk} (hm : Part m h) : WR C ⟨h.next, m⟩ w :=
 ⟨r.sig, fun id blk e => r.blk id blk (hm id blk e).1, fun id id' blk blk' L L' e e' => r.inj id id' blk blk' L L' (hm _ _ e).1 (hm _ _ e').1, fun id blk L x v e => r.apart id blk L x v (hm _ _ e).1, r.fresh, r.base⟩
theorem Live.part {C : Cfg} {h : Heap} {m : Mp Blk} (hm : Part m h) {b : Nat} (l : Live C ⟨h.next, m⟩ b) : Live C h b := by
 obtain ⟨id, blk, L, e, q⟩ := l
 exact ⟨id, blk, L, (hm _ _ e).1, q⟩
theorem row_intr {X : Ctx} (s : Sound X) {f : FuncId} {spec : List AV → Heap → Option AV} (hp : ∀ args h v, spec args h = some v → v.pur = true)
    (hr : ∀ args h v, (∀ id b, h.get id = some b → id < h.next) → spec args h = some v → ∃ m, Part m h ∧ ∃ h' k, callF X (ev X k) f args ⟨h.next, m⟩ = .ret v h' none ∧ ∀ id b, m.get id = some b → h'.get id = some b) : IntrFn X.P f (onHeap spec) := by
  intro args h v h' hg C w vs r hv
  unfold onHeap at hg
  split at hg
  · rename_i u hsp
    cases hg
    have hfr : ∀ id b, h.get id = some b → id < h.next := fun id b e => by
      obtain ⟨L, k1, _⟩ := r.blk id b e
      exact r.fresh id L k1
    obtain ⟨m, hm, h1, n, hcall, hkeep⟩ := hr args h v hfr hsp
    have hok := s.call n f args ⟨h.next, m⟩ C w vs (r.part hm) hv (by rw [hcall]; intro e; cases e)
    refine ⟨hok.1, fun cs => ?_⟩
    have := hok.2 cs
    rw [hcall] at this
    obtain ⟨C', w', fr, u, q1, q2, q3, q4, q5, q6⟩ := this
    have hle : C.le ⟨C.mu, C'.sig⟩ := ⟨fun _ _ h => h, q6.le.sig⟩
    have hsame : ∀ β, β < w.heap.size → ¬ Live C ⟨h.next, m⟩ β → w'.heap[β]? = w.heap[β]? := fun β hb hl => q6.same β hb hl id
    refine ⟨⟨C.mu, C'.sig⟩, w', fr, u, q1, q2, q3, q4.pur (fun _ _ h => h) (hp _ _ _ hsp), ⟨q5.sig, fun id blk e => ?_, r.inj, fun id blk L x u e1 e2 e3 e4 => ?_, r.fresh, q5.base⟩, ?_⟩
    · obtain ⟨L, k1, k2⟩ := r.blk id blk e
      refine ⟨L, k1, ?_⟩
      by_cases hmi : m.get id = some blk
      · obtain ⟨_, sz, el, rfl, hpe⟩ := hm id blk hmi
        obtain ⟨L', g1, g2⟩ := q5.blk id _ (hkeep id _ hmi)
        rw [q6.le.mu _ _ k1] at g1
        cases g1
        exact g2.pur (fun _ _ h => h) hpe
      · refine k2.same hle (hsame _ k2.lt ?_)
        rintro ⟨id', blk', L', e', e2, e3⟩
        have he' := (hm id' blk' e').1
        have := r.inj id id' blk blk' L L' e he' k1 e2 e3.symm
        subst this
        rw [e] at he'
        cases he'
        exact hmi e'
    · obtain ⟨L', k1, k2⟩ := r.blk id blk e1
      rw [e2] at k1
      cases k1
      have hlt := k2.lt
      rcases q6.sig x u (by rw [e4]; exact hlt) e3 with g | g | g
      · exact r.apart id blk L x u e1 e2 g e4
      · obtain ⟨id', blk', L', g1, g2, g3⟩ := g
        exact q5.apart id' blk' L' x u (hkeep _ _ g1) (q6.le.mu _ _ g2) e3 g3.symm
      · exact g.elim
    · exact { le := hle, os := q6.os, tape := q6.tape, output := q6.output, size := q6.size, same := fun β hb hl _ => hsame β hb (fun l => hl (l.part hm)), live := fun β hb l => .inl (by
                obtain ⟨id, blk, L, e1, e2, e3⟩ := l
                exact ⟨id, blk, L, e1, e2, e3⟩)
              own := fun _ _ o => o.elim, sig := fun x u hb e => (by
                rcases q6.sig x u hb e with g | g | g
                · exact .inl g
                · exact .inr (.inl (g.part hm))
                · exact g.elim), next := Nat.le_refl _ }
  · cases hg
end Go.AM
namespace Go.AM
open Go Go.Proofs
variable [Keep]
def h103 (args : List AV) (h : Heap) : Option AV :=
 match args with
 | [a, .row id off len] => (match h.get id with
  | some (.rw sz el) => if (Nat.beq sz 5 && Nat.ble (off + len) el.length && AV.purL el) = true then sp103 [a, .vslice ((el.drop off).take len)] else none
  | _ => none)
 | args => sp103 args
theorem hp103 : ∀ args h v, h103 args h = some v → v.pur = true := by
 intro args h v e
 unfold h103 at e
 split at e
 ·split at e
  ·split at e
   ·exact p103 _ _ e
   ·cases e
  ·cases e
 ·exact p103 _ _ e
theorem H103 : IntrFn Tryz.prog 103 (onHeap h103) := by
 refine row_intr (X := dX cN) cN_sound hp103 ?_
 intro args h v hfr e
 have run : ∀ (a ma ma' : AV) (m : Mp Blk), sp103 [a, ma] = some v → (∀ hs, slV heldC ma = some hs → RdH ⟨h.next, m⟩ ma' hs) → (∀ id b, m.get id = some b → id < h.next) →
   ∃ h' k, callF (dX cN) (ev (dX cN) k) 103 [a, ma'] ⟨h.next, m⟩ = .ret v h' none ∧ ∀ id b, m.get id = some b → h'.get id = some b := by
  intro a ma ma' m e hrd hlt
  unfold sp103 at e
  split at e
  ·rename_i sa cxl cxh cyl cyh wxl wxh wyl wyh ra mv ma0 heq
   cases heq
   split at e
   ·rename_i rs hs hr hm
    split at e
    ·rename_i hc
     cases e
     simp only [Bool.and_eq_true, Nat.ble_eq] at hc
     have q := C103 cN rfl rfl rfl rfl rfl rfl sa mv ra ma' ⟨cxl, cxh⟩ ⟨cyl, cyh⟩ ⟨wxl, wxh⟩ ⟨wyl, wyh⟩ rs hs h.next m hr (hrd hs hm) hc.1.1 hc.1.2 hc.2
     unfold ClR at q
     obtain ⟨r, ⟨k, q1⟩, h', q2, rfl⟩ := q
     exact ⟨_, k, q1 k (Nat.le_refl _), fun id b e => (q2.2 id (hlt id b e)).trans e⟩
    ·cases e
   ·cases e
  ·cases e
 unfold h103 at e
 split at e
 ·rename_i a id off len
  split at e
  ·rename_i sz el hg
   split at e
   ·rename_i hc
    simp only [Bool.and_eq_true, Nat.ble_eq] at hc
    obtain ⟨⟨hz, hle⟩, hpu⟩ := hc
    have hz := Nat.eq_of_beq_eq_true hz
    subst hz
    have hid := hfr id _ hg
    have hget : ∀ id' b, ((Mp.nil : Mp Blk).set id (.rw 5 el)).get id' = some b → id' = id ∧ b = .rw 5 el := by
     intro id' b e
     by_cases hh : (id == id') = true
     ·have := beq_iff_eq.1 hh
      subst this
      rw [get_set_same] at e
      exact ⟨rfl, (Option.some.inj e).symm⟩
     ·rw [get_set_lit _ _ _ _ (by simpa using hh)] at e
      simp at e
    refine ⟨(Mp.nil : Mp Blk).set id (.rw 5 el), fun id' b e => ?_, ?_⟩
    ·obtain ⟨rfl, rfl⟩ := hget id' b e
     exact ⟨hg, 5, el, rfl, purL_mem.1 hpu⟩
    ·refine run a _ (.row id off len) _ e (fun hs hm => ?_) (fun id' b e => by obtain ⟨rfl, _⟩ := hget id' b e; exact hid)
     have hl : (el.drop off).take len = hs.map heldC.enc := by
      rcases (slV_is hm).1 with ⟨h1, _⟩ | h1
      ·rcases h1 with h1 | h1 <;> cases h1
      ·exact AV.vslice.inj h1
     have hlen : hs.length = len := by
      have := congrArg List.length hl
      simp at this
      omega
     subst hlen
     exact rdH_row (get_set_same _ _ _) hid hl hle
   ·cases e
  ·cases e
 ·rename_i hne
  have h2 : ∃ a ma, args = [a, ma] := by
   unfold sp103 at e
   split at e
   ·exact ⟨_, _, rfl⟩
   ·cases e
  obtain ⟨a, ma, rfl⟩ := h2
  refine ⟨.nil, fun id b e => by simp at e, ?_⟩
  exact run a ma ma .nil e (fun hs hm => rdH_sl hm) (fun id b e => by simp at e)
end Go.AM
namespace Go.AM
open Go Go.Proofs
variable [Keep]
attribute [local irreducible] W WO WO1 WD WQ WT thenQ blockQ endR isRet retK Cl ClR
theorem int_idx {a : AV} {l : List Int} (h : slV intC a = some l) {k : Nat} {p : Int} (hp : l[k]? = some p) (H : Heap) : indexAddrV Tryz.prog H 39 a (.int .i64 ↑k) = some (.vptr [.int .i64 p]) :=
 (slV_is h).1.idx (x := intC.enc p) Tryz.underlying39 ty_lay3 (by simp [hp]) rfl
def sp166 : List AV → Option AV
 | [a, .int .i64 v] => (slV intC a).map fun l => .int .i64 (idxOf (fun x => decide (v = x)) l)
 | _ => none
theorem p166 : ∀ args v, sp166 args = some v → v.flat = true := by
 intro args v h
 unfold sp166 at h
 split at h
 ·simp only [Option.map_eq_some_iff] at h; obtain ⟨l, _, rfl⟩ := h; rfl
 ·cases h
theorem C166 (c : FuncId → Option (List AV → Heap → Option (AV × Heap))) (hc : c 166 = none) (a : AV) (l : List Int) (ha : slV intC a = some l) (v : Int) (h : Heap) : ClR (dX c) 166 [a, .int .i64 v] h (isRet (.int .i64 (idxOf (fun x => decide (v = x)) l))) := by
 have hlen := sl_len ha
 have hout := sl_out ha
 have hmax := sl_max ha
 refine ClR.walk (c := _) hc Tryz.func166 rfl (by kernel_rfl) rfl isRet_fail ?_
 simp only [entryEnv, Nat.reduceAdd]
 repeat' (first | refine goS ?_ | refine go2 (fun hh => ?_) (fun hh => ?_) | fail)
 refine W.loopN l.length (fun k F => ∃ e, F = Fr.mk 166 false e .nil h [] none ∧ (l.take k).all (fun x => !decide (v = x)) = true ∧ e.get 0 = some a ∧ e.get 1 = some (.int .i64 v) ∧ e.get 7 = some (.int .i64 ↑l.length) ∧ e.get 8 = some (.int .i64 ↑k) ∧ k ≤ l.length) ?_ ?_
 ·refine ⟨_, rfl, ?_, ?_, ?_, ?_, ?_, ?_⟩ <;> simp [go_sem, *]
 rintro k F ⟨e, rfl, hall, h0, h1, h7, h8, hk⟩
 have HA := Lib.hid hall
 clear hall
 by_cases hlt : k < l.length
 ·obtain ⟨p, hp⟩ := get_some hlt
  have hix := int_idx ha hp
  have hd : decide ((k : Int) < (l.length : Int)) = true := by simpa using hlt
  have hw := wrap_succ hlt hmax
  have hnx := take_next hp
  by_cases hvp : v = p
  ·have HI := Lib.hid (idxOf_at (pb := fun x => decide (v = x)) HA.out hp (by simpa using hvp))
   have hb : decide (v = p) = true := by simpa using hvp
   have hb2 : (v == p) = true := by simpa using hvp
   clear ha hp hnx hvp
   repeat' (first | refine goS ?_ | refine go2 (fun hh => ?_) (fun hh => ?_) | fail)
   all_goals (simp only [resV_def (X := dX c) Tryz.func166, Tryz.results166]; first | exact J5 | refine J6 ?_)
   rw [HI.out]
  ·have hb : decide (v = p) = false := by simpa using hvp
   have hb2 : (v == p) = false := by simpa using hvp
   have HN := Lib.hid hnx
   clear ha hp hnx hvp
   repeat' (first | refine goS ?_ | refine go2 (fun hh => ?_) (fun hh => ?_) | fail)
   refine ⟨hlt, _, rfl, ?_, ?_, ?_, ?_, ?_, by omega⟩
   ·have := HA.out
    rw [HN.out]; simp_all
   all_goals exact Z2
 ·have hd : decide ((k : Int) < (l.length : Int)) = false := by simpa using hlt
  have hkl : k = l.length := by omega
  have h2 := HA.out
  rw [hkl, List.take_length] at h2
  have HI := Lib.hid (idxOf_none h2)
  clear ha h2 hkl
  repeat' (first | refine goS ?_ | refine go2 (fun hh => ?_) (fun hh => ?_) | fail)
  all_goals (simp only [resV_def (X := dX c) Tryz.func166, Tryz.results166]; first | exact J5 | refine J6 ?_)
  rw [HI.out]
noncomputable def cO : FuncId → Option (List AV → Heap → Option (AV × Heap)) := fun _ => none
theorem cO_sound : Sound (dX cO) := dX_sound (fun f g h => by cases h)
theorem F166 : IntrFn Tryz.prog 166 (flatFn sp166) := by
 refine flat_fn (X := dX cO) cO_sound p166 ?_
 intro args v h
 unfold sp166 at h
 split at h
 ·simp only [Option.map_eq_some_iff] at h
  obtain ⟨l, hl, rfl⟩ := h
  exact C166 cO rfl _ l hl _ _
 ·cases h
end Go.AM
namespace Go.AM
open Go Go.Proofs Go.Shelf Go.Sort Go.RowKit
variable [Keep]
def strsOf : List AV → Option (List (List UInt8))
 | [] => some []
 | .str s :: r => match strsOf r with | some l => some (s :: l) | none => none
 | _ => none
theorem strsOf_eq : ∀ {l : List AV} {xs : List (List UInt8)}, strsOf l = some xs → l = xs.map AV.str := by
 intro l
 induction l with
 | nil => intro xs h; simp [strsOf] at h; subst h; rfl
 | cons a l ih =>
  intro xs h
  unfold strsOf at h
  split at h
  ·rename_i e; cases e
  ·rename_i s r e
   cases e
   split at h
   ·rename_i l' h'
    cases h
    rw [ih h']; rfl
   ·cases h
  ·cases h
theorem WR.strs {C : Cfg} {h : Heap} {w : World} (r : WR C h w) {y : AV} {yv : Value} {xs : List (List UInt8)} (hv : VR C y yv) (he : h.elems y = some (xs.map AV.str)) :
  (xs = [] ∧ ∃ p c, yv = .slice p 0 c) ∨ ∃ B O c, yv = .slice (some ⟨B, O, none⟩) xs.length c ∧ xs.length ≤ c ∧ ∀ (i : Nat) (s : List UInt8), xs[i]? = some s → w.cell? ⟨B, O + i, none⟩ = some (.string ⟨⟨s⟩⟩) := by
 unfold Heap.elems at he
 split at he
 ·cases hv
  have : xs = [] := by simpa using he.symm
  exact .inl ⟨this, _, _, rfl⟩
 ·cases hv
  have : xs = [] := by simpa using he.symm
  exact .inl ⟨this, _, _, rfl⟩
 ·have he := Option.some.inj he
  subst he
  generalize hl : xs.map AV.str = l at hv
  cases hv with
  | vslice0 a cap =>
   have : xs = [] := by simpa using hl
   exact .inl ⟨this, _, _, rfl⟩
  | vslice vs k1 k2 k3 k4 k5 =>
   rename_i sz b o cap
   subst hl
   refine .inr ⟨b, o, cap, by simp, by simpa using k1, fun i s hi => ?_⟩
   have hlt : i < xs.length := (List.getElem?_eq_some_iff.1 hi).1
   have hmem : AV.str s ∈ xs.map AV.str := List.mem_map.2 ⟨s, List.mem_of_getElem? hi, rfl⟩
   have hsz : sz = 1 := by have := k2 _ hmem; simpa [AV.cells] using this.symm
   subst hsz
   have hg : (xs.map AV.str).getD i .junk = .str s := by simp [List.getD, hi]
   have hs := r.sig _ _ (k3 i 0 (by simpa using hlt) (by omega))
   have hv := k4 i 0 (by simpa using hlt) (by omega)
   rw [hg] at hv
   simp only [AV.cells, List.getD, List.getElem?_cons_zero, Option.getD_some] at hv
   generalize vs i 0 = u at hs hv
   cases hv
   simpa using hs
 ·rename_i id off len
  split at he
  ·rename_i sz el hg
   split at he
   ·rename_i hle
    have he := Option.some.inj he
    obtain ⟨L, e1, c, f1, f2, f3, f4, f5⟩ := r.blk id _ hg
    cases hv with
    | row A e2 k1 k2 k3 =>
     rw [e1] at e2
     cases e2
     rename_i cap
     have hlen : xs.length = len := by
      have := congrArg List.length he
      simp at this
      omega
     by_cases hx : xs = []
     ·subst hx
      simp at hlen
      subst hlen
      exact .inl ⟨rfl, _, _, rfl⟩
     ·have hpos : 0 < xs.length := List.length_pos_iff.2 hx
      rcases k2 with rfl | rfl
      ·omega
      ·refine .inr ⟨L.b, L.o + off * L.sz, cap, by rw [hlen], by omega, fun i s hi => ?_⟩
       have hlt : i < xs.length := (List.getElem?_eq_some_iff.1 hi).1
       have hei : el[off + i]? = some (.str s) := by
        have : ((el.drop off).take len)[i]? = some (.str s) := by rw [he]; simp [hi]
        rw [List.getElem?_take, List.getElem?_drop] at this
        split at this
        ·exact this
        ·cases this
       obtain ⟨g1, g2, g3⟩ := f5 _ _ hei
       have hsz : L.sz = 1 := by rw [f2]; simpa [AV.cells] using g1.symm
       obtain ⟨u, hu, hv⟩ := g3 0 (.str s) rfl
       cases hv
       have hcell := f1
       rw [hsz]
       have hu' : c[L.o + (off + i) * 1 + 0]? = some (Value.string ⟨⟨s⟩⟩) := by rw [← f2, hsz] at hu; exact hu
       have e3 : L.o + off * 1 + i = L.o + (off + i) * 1 + 0 := by omega
       rw [e3, hcell.cell]
       exact hu'
   ·cases he
  ·cases he
 ·cases he
theorem VRs.two {C : Cfg} {a b : AV} {vs : Array Value} (h : VRs C [a, b] vs) : ∃ u v, vs = #[u, v] ∧ VR C a u ∧ VR C b v := by
 obtain ⟨hs, hi⟩ := h
 have hs' : vs.size = 2 := by simpa using hs
 refine ⟨vs.getD 0 undef, vs.getD 1 undef, ?_, hi 0 (by simp), hi 1 (by simp)⟩
 apply Array.ext (by simpa using hs')
 intro i h1 h2
 have : i = 0 ∨ i = 1 := by simp at h2; omega
 rcases this with rfl | rfl <;> simp [Array.getD, hs']
def spJoin : List AV → Heap → Option (AV × Heap)
 | [a, .str sep], h => match h.elems a with
  | some l => match strsOf l with
   | some xs => if Nat.ble xs.length maxL && Nat.ble (Lib.join xs sep).length maxL then some (.str (Lib.join xs sep), h) else none
   | none => none
  | none => none
 | _, _ => none
theorem join_intr {P : Program} {ρ : Ren} (L : Lays.n156 P ρ) (X : Builder.Extra P ρ) (hb : ∃ fn, P.funcs[ρ.f 156]? = some fn ∧ fn.body.isSome = true) : IntrFn P (ρ.f 156) spJoin := by
 intro args h v h' hg C w vs r hv
 refine ⟨hb, fun cs => ?_⟩
 unfold spJoin at hg
 split at hg
 ·rename_i a sep
  split at hg
  ·rename_i l hl
   split at hg
   ·rename_i xs hxs
    split at hg
    ·rename_i hc
     cases hg
     simp only [Bool.and_eq_true, Nat.ble_eq] at hc
     obtain ⟨u, t, rfl, ha, ht⟩ := hv.two
     cases ht
     rw [strsOf_eq hxs] at hl
     have hbelow : ∀ {w' : World}, Below w.heap.size w w' → w'.os = w.os ∧ w'.tape = w.tape ∧ w'.output = w.output ∧ w.heap.size ≤ w'.heap.size ∧ ∀ β, β < w.heap.size → w'.heap[β]? = w.heap[β]? := fun b => ⟨b.os, b.tape, b.output, b.size, b.block⟩
     rcases r.strs ha hl with ⟨rfl, p, c, rfl⟩ | ⟨B, O, c, rfl, h1, h2⟩
     ·refine lib_left r ((Any.strings_Join_none L X p c ⟨⟨sep⟩⟩ w).mono fun e w' q => ?_) cs
      obtain ⟨rfl, rfl⟩ := q
      exact ⟨_, rfl, .str _, hbelow (Below.refl _ _)⟩
     ·by_cases hx : xs = []
      ·subst hx
       refine lib_left r ((Any.strings_Join_none L X _ c ⟨⟨sep⟩⟩ w).mono fun e w' q => ?_) cs
       obtain ⟨rfl, rfl⟩ := q
       exact ⟨_, rfl, .str _, hbelow (Below.refl _ _)⟩
      ·have hpos : 0 < xs.length := List.length_pos_iff.2 hx
       have hB : B < w.heap.size := by
        have q := h2 0 xs[0] (by simp [hpos])
        rcases Nat.lt_or_ge B w.heap.size with h' | h'
        ·exact h'
        ·simp [World.cell?, Array.getElem?_eq_none h'] at q
       have hmap : (xs.map fun s => (⟨⟨s⟩⟩ : ByteArray)).map (·.data.toList) = xs := by simp [Function.comp_def]
       have hcall := Any.strings_Join L X B O c (xs.map fun s => ⟨⟨s⟩⟩) ⟨⟨sep⟩⟩ w (fun j x hj => by
         rw [List.getElem?_map, Option.map_eq_some_iff] at hj
         obtain ⟨s, hj, rfl⟩ := hj
         exact h2 j s hj) hB (by simp only [List.length_map]; unfold maxL at hc; omega) (by simpa using h1) (by rw [hmap]; show (Lib.join xs sep).length ≤ _; unfold maxL at hc; have := hc.2; omega)
       rw [List.length_map] at hcall
       refine lib_left r (hcall.mono fun e w' q => ?_) cs
       obtain ⟨rfl, q⟩ := q
       refine ⟨_, rfl, ?_, hbelow q⟩
       rw [hmap]
       exact .str _
    ·cases hg
   ·cases hg
  ·cases hg
 ·cases hg
end Go.AM
namespace Go.Proofs
open Go.Shelf
def Tryz.lays156_ren : Go.Shelf.Ren := ⟨fun | 156 => 182 | 165 => 198 | 166 => 199 | 169 => 200 | 240 => 205 | 241 => 206 | 276 => 215 | 277 => 216 | n => n, fun | 31 => 208 | 9 => 9 | 3 => 3 | 4 => 4 | 0 => 0 | 20 => 20 | 72 => 266 | 76 => 270 | 70 => 264 | 37 => 131 | 75 => 269 | 127 => 276 | 164 => 286 | 5 => 5 | 80 => 272 | n => n, fun | n => n⟩
theorem Tryz.lays156 : Go.Proofs.Lays.n156 Tryz.prog Tryz.lays156_ren := {
  mixed := by kernel_rfl
  f156 := Tryz.func182.trans (congrArg some (by kernel_rfl))
  f165 := Tryz.func198.trans (congrArg some (by kernel_rfl))
  f166 := Tryz.func199.trans (congrArg some (by kernel_rfl))
  f169 := Tryz.func200.trans (congrArg some (by kernel_rfl))
  f240 := Tryz.func205.trans (congrArg some (by kernel_rfl))
  f241 := Tryz.func206.trans (congrArg some (by kernel_rfl))
  f276 := Tryz.func215.trans (congrArg some (by kernel_rfl))
  f277 := Tryz.func216.trans (congrArg some (by kernel_rfl))
  t0 := Tryz.underlying0
  a0 := Tryz.isAgg0
  z0 := Tryz.sizeOf0
  v0 := Tryz.zeroValue0
  t3 := Tryz.underlying3
  a3 := Tryz.isAgg3
  z3 := Tryz.sizeOf3
  v3 := Tryz.zeroValue3
  t4 := Tryz.underlying4
  a4 := Tryz.isAgg4
  z4 := Tryz.sizeOf4
  v4 := Tryz.zeroValue4
  t9 := Tryz.underlying9
  a9 := Tryz.isAgg9
  z9 := Tryz.sizeOf9
  v9 := Tryz.zeroValue9
  t20 := Tryz.underlying20
  a20 := Tryz.isAgg20
  z20 := Tryz.sizeOf20
  v20 := Tryz.zeroValue20
  t31 := Tryz.underlying208
  a31 := Tryz.isAgg208
  z31 := Tryz.sizeOf208
  v31 := Tryz.zeroValue208
  t37 := Tryz.underlying131
  a37 := Tryz.isAgg131
  z37 := Tryz.sizeOf131
  v37 := Tryz.zeroValue131
  t70 := Tryz.underlying264
  a70 := Tryz.isAgg264
  z70 := Tryz.sizeOf264
  v70 := Tryz.zeroValue264
  t72 := Tryz.underlying266
  a72 := Tryz.isAgg266
  z72 := Tryz.sizeOf266
  v72 := Tryz.zeroValue266
  t75 := Tryz.underlying269
  a75 := Tryz.isAgg269
  z75 := Tryz.sizeOf269
  v75 := Tryz.zeroValue269
  t76 := Tryz.underlying270
  a76 := Tryz.isAgg270
  z76 := Tryz.sizeOf270
  v76 := Tryz.zeroValue270
  t127 := Tryz.underlying276
  a127 := Tryz.isAgg276
  z127 := Tryz.sizeOf276
  v127 := Tryz.zeroValue276
  t164 := Tryz.underlying286
  a164 := Tryz.isAgg286
  z164 := Tryz.sizeOf286
  v164 := Tryz.zeroValue286 }
theorem Tryz.Builder_Extra_156 : Builder.Extra Tryz.prog Tryz.lays156_ren := {
  sizeBuilder := by kernel_rfl
  liesBuilder := by kernel_rfl
  t5 := Tryz.underlying5
  a5 := Tryz.isAgg5
  z5 := Tryz.sizeOf5
  v5 := Tryz.zeroValue5
  infoByte := by kernel_rfl
  cellsByte := by kernel_rfl
  sizeByte := by kernel_rfl
  neB5 := by decide }
def Tryz.laysM171_ren : Go.Shelf.Ren := ⟨fun | 171 => 181 | 243 => 197 | 246 => 204 | 283 => 211 | 284 => 212 | 285 => 213 | 286 => 214 | 129 => 223 | 317 => 222 | 318 => 224 | 319 => 225 | 320 => 226 | 337 => 233 | 338 => 234 | n => n, fun | 3 => 3 | 9 => 9 | 2 => 2 | 4 => 4 | 171 => 280 | 0 => 0 | 53 => 281 | 37 => 131 | 5 => 5 | 173 => 284 | 212 => 294 | 51 => 295 | 20 => 20 | 213 => 296 | 46 => 297 | 232 => 307 | 233 => 308 | n => n, fun | 17 => 0 | 18 => 4 | 19 => 5 | n => n⟩
theorem Tryz.laysM171 : Go.Proofs.LaysM.n171 Tryz.prog Tryz.laysM171_ren := {
  mixed := by kernel_rfl
  f129 := Tryz.func223.trans (congrArg some (by kernel_rfl))
  f171 := Tryz.func181.trans (congrArg some (by kernel_rfl))
  f243 := Tryz.func197.trans (congrArg some (by kernel_rfl))
  f246 := Tryz.func204.trans (congrArg some (by kernel_rfl))
  f283 := Tryz.func211.trans (congrArg some (by kernel_rfl))
  f284 := Tryz.func212.trans (congrArg some (by kernel_rfl))
  f285 := Tryz.func213.trans (congrArg some (by kernel_rfl))
  f286 := Tryz.func214.trans (congrArg some (by kernel_rfl))
  f317 := Tryz.func222.trans (congrArg some (by kernel_rfl))
  f318 := Tryz.func224.trans (congrArg some (by kernel_rfl))
  f319 := Tryz.func225.trans (congrArg some (by kernel_rfl))
  f320 := Tryz.func226.trans (congrArg some (by kernel_rfl))
  f337 := Tryz.func233.trans (congrArg some (by kernel_rfl))
  f338 := Tryz.func234.trans (congrArg some (by kernel_rfl))
  t0 := Tryz.underlying0
  a0 := Tryz.isAgg0
  z0 := Tryz.sizeOf0
  v0 := Tryz.zeroValue0
  t2 := Tryz.underlying2
  a2 := Tryz.isAgg2
  z2 := Tryz.sizeOf2
  v2 := Tryz.zeroValue2
  t3 := Tryz.underlying3
  a3 := Tryz.isAgg3
  z3 := Tryz.sizeOf3
  v3 := Tryz.zeroValue3
  t4 := Tryz.underlying4
  a4 := Tryz.isAgg4
  z4 := Tryz.sizeOf4
  v4 := Tryz.zeroValue4
  t5 := Tryz.underlying5
  a5 := Tryz.isAgg5
  z5 := Tryz.sizeOf5
  v5 := Tryz.zeroValue5
  t9 := Tryz.underlying9
  a9 := Tryz.isAgg9
  z9 := Tryz.sizeOf9
  v9 := Tryz.zeroValue9
  t20 := Tryz.underlying20
  a20 := Tryz.isAgg20
  z20 := Tryz.sizeOf20
  v20 := Tryz.zeroValue20
  t37 := Tryz.underlying131
  a37 := Tryz.isAgg131
  z37 := Tryz.sizeOf131
  v37 := Tryz.zeroValue131
  t46 := Tryz.underlying297
  a46 := Tryz.isAgg297
  z46 := Tryz.sizeOf297
  v46 := Tryz.zeroValue297
  t51 := Tryz.underlying295
  a51 := Tryz.isAgg295
  z51 := Tryz.sizeOf295
  v51 := Tryz.zeroValue295
  t53 := Tryz.underlying281
  a53 := Tryz.isAgg281
  z53 := Tryz.sizeOf281
  v53 := Tryz.zeroValue281
  t171 := Tryz.underlying280
  a171 := Tryz.isAgg280
  z171 := Tryz.sizeOf280
  v171 := Tryz.zeroValue280
  t173 := Tryz.underlying284
  a173 := Tryz.isAgg284
  z173 := Tryz.sizeOf284
  v173 := Tryz.zeroValue284
  t212 := Tryz.underlying294
  a212 := Tryz.isAgg294
  z212 := Tryz.sizeOf294
  v212 := Tryz.zeroValue294
  t213 := Tryz.underlying296
  a213 := Tryz.isAgg296
  z213 := Tryz.sizeOf296
  t232 := Tryz.underlying307
  a232 := Tryz.isAgg307
  z232 := Tryz.sizeOf307
  v232 := Tryz.zeroValue307
  t233 := Tryz.underlying308
  a233 := Tryz.isAgg308
  z233 := Tryz.sizeOf308
  v233 := Tryz.zeroValue308
  g17 := by kernel_rfl
  g18 := by kernel_rfl
  g19 := by kernel_rfl
  i0 := by kernel_rfl
  i2 := by kernel_rfl
  i3 := by kernel_rfl
  i4 := by kernel_rfl
  i5 := by kernel_rfl
  i9 := by kernel_rfl
  i20 := by kernel_rfl
  i37 := by kernel_rfl
  i46 := by kernel_rfl
  i51 := by kernel_rfl
  i53 := by kernel_rfl
  i171 := by kernel_rfl
  i173 := by kernel_rfl
  i212 := by kernel_rfl
  i232 := by kernel_rfl
  i233 := by kernel_rfl
  m17 := by kernel_rfl
  m18 := by kernel_rfl
  m19 := by kernel_rfl }
end Go.Proofs
namespace Go.AM
open Go Go.Proofs
variable [Keep]
theorem r181 : Tryz.laysM171_ren.f 171 = 181 := rfl
theorem r182 : Tryz.lays156_ren.f 156 = 182 := rfl
theorem b181 : ∃ fn, Tryz.prog.funcs[181]? = some fn ∧ fn.body.isSome = true := ⟨_, Tryz.func181, by kernel_rfl⟩
theorem b182 : ∃ fn, Tryz.prog.funcs[182]? = some fn ∧ fn.body.isSome = true := ⟨_, Tryz.func182, by kernel_rfl⟩
theorem F181 (hT : TabK Tryz.prog) : IntrFn Tryz.prog 181 (atOnce spItoa) := by
 have h := itoa_intr Tryz.laysM171 hT (by rw [r181]; exact b181)
 rw [r181] at h
 exact h
theorem F182 : IntrFn Tryz.prog 182 spJoin := by
 have h := join_intr Tryz.lays156 Tryz.Builder_Extra_156 (by rw [r182]; exact b182)
 rw [r182] at h
 exact h
end Go.AM
namespace Go.AM
open Go Go.Proofs
def cK : FuncId → Option (List AV → Heap → Option (AV × Heap))
 | 26 => some (pureFn sp26)
 | 27 => some (pureFn sp27)
 | 28 => some (flatFn sp28)
 | 29 => some (flatFn sp29)
 | 30 => some (pureFn sp30)
 | 53 => some (flatFn sp53)
 | 80 => some (pureFn sp80)
 | 81 => some (pureFn sp81)
 | 92 => some (pureFn sp92)
 | 93 => some (pureFn sp93)
 | 94 => some (flatFn sp94)
 | 95 => some (pureFn sp95)
 | 96 => some (pureFn sp96)
 | 97 => some (pureFn sp97)
 | 98 => some (pureFn sp98)
 | 103 => some (onHeap h103)
 | 135 => some (pureFn sp135)
 | 149 => some (pureFn sp149)
 | 151 => some (pureFn sp151)
 | 158 => some (pureFn sp158)
 | 174 => some (pureFn sp174)
 | 190 => some (pureFn sp190)
 | 252 => some (pureFn sp252)
 | 253 => some (pureFn sp253)
 | 166 => some (flatFn sp166)
 | 181 => some (atOnce spItoa)
 | 182 => some spJoin
 | _ => none
def isTrue : COut → Bool
 | .ret (.bool b) _ none => b
 | _ => false
section
variable [Keep]
theorem cK_sound (hT : TabK Tryz.prog) : Sound (dX cK) := dX_sound (fun f g h => by
 unfold cK at h
 split at h
 ·cases h; exact F26
 ·cases h; exact F27
 ·cases h; exact F28
 ·cases h; exact F29
 ·cases h; exact F30
 ·cases h; exact F53
 ·cases h; exact F80
 ·cases h; exact F81
 ·cases h; exact F92
 ·cases h; exact F93
 ·cases h; exact F94
 ·cases h; exact F95
 ·cases h; exact F96
 ·cases h; exact F97
 ·cases h; exact F98
 ·cases h; exact H103
 ·cases h; exact F135
 ·cases h; exact F149
 ·cases h; exact F151
 ·cases h; exact F158
 ·cases h; exact F174
 ·cases h; exact F190
 ·cases h; exact F252
 ·cases h; exact F253
 ·cases h; exact F166
 ·cases h; exact F181 hT
 ·cases h; exact F182
 ·cases h)
end
end Go.AM
namespace Go.AM
open Go Go.Proofs
variable [Keep]
theorem pure_intr1 {X : Ctx} (s : Sound X) {f : FuncId} {spec : List AV → Option AV} (hp : ∀ args v, spec args = some v → v.pur = true) (hr : ∀ args v, spec args = some v → ∃ h' k, callF X (ev X k) f args emptyHp = .ret v h' none) : IntrFn X.P f (pureFn spec) := by
  intro args h v h' hg C w vs r hv
  unfold pureFn at hg
  split at hg
  · rename_i hpur
    split at hg
    · rename_i u hsp
      cases hg
      obtain ⟨h1, n, hcall⟩ := hr args v hsp
      have hok := s.call n f args emptyHp ⟨fun _ => none, C.sig⟩ w vs r.bare (hv.pur (fun _ _ h => h) (purL_mem.1 hpur)) (by rw [hcall]; intro e; cases e)
      refine ⟨hok.1, fun cs => ?_⟩
      have := hok.2 cs
      rw [hcall] at this
      obtain ⟨C', w', fr, u, q1, q2, q3, q4, q5, q6⟩ := this
      have hle : C.le ⟨C.mu, C'.sig⟩ := ⟨fun _ _ h => h, q6.le.sig⟩
      have hsame : ∀ β, β < w.heap.size → w'.heap[β]? = w.heap[β]? := fun β hb => q6.same β hb emptyHp_live id
      have hsig : ∀ x u, x.block < w.heap.size → C'.sig x = some u → C.sig x = some u := fun x u hb e => by
        rcases q6.sig x u hb e with h | h | h
        · exact h
        · exact (emptyHp_live h).elim
        · exact h.elim
      refine ⟨⟨C.mu, C'.sig⟩, w', fr, u, q1, q2, q3, q4.pur (fun _ _ h => h) (hp _ _ hsp), ⟨q5.sig, fun id blk e => ?_, r.inj, fun id blk L x u e1 e2 e3 e4 => ?_, r.fresh, q5.base⟩, ?_⟩
      · obtain ⟨L, k1, k2⟩ := r.blk id blk e
        exact ⟨L, k1, k2.same hle (hsame _ k2.lt)⟩
      · obtain ⟨L', k1, k2⟩ := r.blk id blk e1
        rw [e2] at k1
        cases k1
        have := k2.lt
        exact r.apart id blk L x u e1 e2 (hsig x u (by rw [e4]; exact this) e3) e4
      · exact { le := hle, os := q6.os, tape := q6.tape, output := q6.output, size := q6.size, same := fun β hb _ _ => hsame β hb, live := fun β hb l => .inl (by
                  obtain ⟨id, blk, L, e1, e2, e3⟩ := l
                  exact ⟨id, blk, L, e1, e2, e3⟩)
                own := fun _ _ o => o.elim, sig := fun x u hb e => .inl (hsig x u hb e), next := Nat.le_refl _ }
    · cases hg
  · cases hg
def sp25 : List AV → Option AV
 | [] => some (.bool true)
 | _ => none
theorem isTrue_ret {r : COut} (h : isTrue r = true) : ∃ h', r = .ret (.bool true) h' none := by
 unfold isTrue at h
 split at h
 ·subst h; exact ⟨_, rfl⟩
 ·cases h
end Go.AM
namespace Go.AM
open Go Go.Proofs
variable [Keep]
def retIs (r : COut) (v : AV) : Bool :=
 match r with
 | .ret u _ none => AV.same u v
 | _ => false
theorem retIs_ret {r : COut} {v : AV} (h : retIs r v = true) : ∃ h', r = .ret v h' none := by
 unfold retIs at h
 split at h
 ·rename_i u h'
  have := AV.same_eq _ _ h
  subst this
  exact ⟨_, rfl⟩
 ·cases h
def memo (tab : List (List AV × AV)) (args : List AV) : Option AV :=
 match tab with
 | [] => none
 | (a, v) :: r => bif AV.sameL a args then some v else memo r args
theorem memo_mem {tab : List (List AV × AV)} {args : List AV} {v : AV} (h : memo tab args = some v) : (args, v) ∈ tab := by
 induction tab with
 | nil => simp [memo] at h
 | cons e r ih =>
  obtain ⟨a, u⟩ := e
  simp only [memo] at h
  cases hs : AV.sameL a args with
  | true =>
   rw [hs] at h
   have := AV.sameL_eq _ _ hs
   subst this
   cases h
   exact .head _
  | false =>
   rw [hs] at h
   exact .tail _ (ih h)
theorem memo_intr {X : Ctx} (s : Sound X) {f : FuncId} {tab : List (List AV × AV)} (hp : (tab.all fun e => e.2.pur) = true) (hr : ∀ e ∈ tab, ∃ n, retIs (callF X (ev X n) f e.1 emptyHp) e.2 = true) : IntrFn X.P f (pureFn (memo tab)) := by
 refine pure_intr1 s ?_ ?_
 ·intro args v e
  exact List.all_eq_true.1 hp _ (memo_mem e)
 ·intro args v e
  obtain ⟨n, hn⟩ := hr _ (memo_mem e)
  obtain ⟨h', e'⟩ := retIs_ret hn
  exact ⟨h', n, e'⟩
end Go.AM
namespace Go.AM
open Go Go.Proofs
variable [Keep]
attribute [local irreducible] W WO WO1 WD WQ WT thenQ blockQ endR isRet retK Cl ClR
theorem turnP_R {turn : Int} (h : inB turn 0 7 = true) (p : Pt) : turnP turn p = turnR p turn := by
 simp only [inB, Bool.and_eq_true, decide_eq_true_eq] at h
 unfold turnP turnR
 by_cases h4 : turn < 4
 ·rw [if_pos h4, if_neg (by omega)]
  have : turn.tmod 4 = turn := Int.tmod_eq_of_lt (by omega) h4
  rw [this]
 ·have hw : w64 (turn - 4) = turn - 4 := wrap_small (by omega) (by omega)
  have : turn.tmod 4 = turn - 4 := by
   rw [Int.tmod_eq_emod_of_nonneg (by omega)]
   omega
  rw [if_neg h4, if_pos (by omega), hw, this]
  rfl
def c25 (c : FuncId → Option (List AV → Heap → Option (AV × Heap))) : FuncId → Option (List AV → Heap → Option (AV × Heap))
 | 25 => some (pureFn sp25)
 | f => c f
theorem K25 {X : Ctx} (hX : X.intr 25 = some (pureFn sp25)) (h : Heap) : Cl X 25 [] h (.ret (.bool true) h none) := Cl.intr hX rfl
end Go.AM
