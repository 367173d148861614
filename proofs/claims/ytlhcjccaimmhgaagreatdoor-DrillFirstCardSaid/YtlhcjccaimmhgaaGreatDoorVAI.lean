/-
  A part of the proof: contracts of functions.
-/
import Derived.Test.YtlhcjccaimmhgaaGreatDoorVAH
import Derived.Test.YtlhcjccaimmhgaaGreatDoorVAG
import Derived.Shelf.Strconv.Itoa3
import Derived.Shelf.Strings.OnBuilder
import Derived.Carry
import Derived.Test.YtlhcjccaimmhgaaGreatDoorTie
import Derived.ProofKit
import Derived.ChangeCalls
import Derived.OpenShut
import Derived.LaidMore
import Derived.Lay
import Derived.SevenTiedAt
import Derived.Stop.Joined
import Derived.Lib.Hide
set_option linter.unusedSectionVars false
set_option linter.unusedVariables false
set_option linter.unusedSimpArgs false
set_option maxRecDepth 100000
namespace Go.AM
open Go Go.Proofs
variable [Keep]
attribute [local irreducible] W WO WO1 WD WQ WT thenQ blockQ endR isRet retK Cl ClR
def w64 (n : Int) : Int := IntKind.i64.wrap n
def inB (x lo hi : Int) : Bool := decide (x >= lo) && decide (x <= hi)
def spanB (l h lo hi wide : Int) : Bool := decide (l >= lo) && decide (l <= h) && decide (h <= hi) && decide (w64 (h - l) <= wide)
noncomputable def i0 : Itr := fun _ => none
theorem i0_sound : Sound (dX i0) := dX_sound (fun f g h => by cases h)
def sp93 : List AV -> Option AV
 | [.int .i64 x, .int .i64 lo, .int .i64 hi] => some (.bool (inB x lo hi))
 | _ => none
theorem p93 : ∀ args v, sp93 args = some v -> v.pur = true := by
 intro args v h
 unfold sp93 at h
 split at h
 ·cases h; rfl
 ·cases h
set_option maxHeartbeats 200000 in
theorem F93 : IntrFn Tryz.prog 93 (pureFn sp93) := by
 refine pure_fn (X := (dX i0)) i0_sound p93 ?_
 intro args v h
 unfold sp93 at h
 split at h
 ·cases h
  rename_i x lo hi
  refine ClR.walk (c := _) rfl Tryz.func93 rfl (by kernel_rfl) rfl isRet_fail ?_
  simp only [entryEnv, Nat.reduceAdd]
  repeat' (first | refine goS ?_ | refine go2 (fun hh => ?_) (fun hh => ?_) | fail)
  all_goals (simp only [resV_def (X := dX i0) Tryz.func93, Tryz.results93]; first | exact J5 | refine J6 ?_)
  all_goals simp [inB, *]
 ·cases h
theorem K93 {X : Ctx} (hX : X.intr 93 = some (pureFn sp93)) (x lo hi : Int) (h : Heap) : Cl X 93 [.int .i64 x, .int .i64 lo, .int .i64 hi] h (.ret (.bool (inB x lo hi)) h none) := Cl.intr hX rfl
def sp97 : List AV -> Option AV
 | [.int .i64 x, .int .i64 lo, .int .i64 hi] => some (.bool (inB x lo hi))
 | _ => none
theorem p97 : ∀ args v, sp97 args = some v -> v.pur = true := by
 intro args v h
 unfold sp97 at h
 split at h
 ·cases h; rfl
 ·cases h
set_option maxHeartbeats 200000 in
theorem F97 : IntrFn Tryz.prog 97 (pureFn sp97) := by
 refine pure_fn (X := (dX i0)) i0_sound p97 ?_
 intro args v h
 unfold sp97 at h
 split at h
 ·cases h
  rename_i x lo hi
  refine ClR.walk (c := _) rfl Tryz.func97 rfl (by kernel_rfl) rfl isRet_fail ?_
  simp only [entryEnv, Nat.reduceAdd]
  repeat' (first | refine goS ?_ | refine go2 (fun hh => ?_) (fun hh => ?_) | fail)
  all_goals (simp only [resV_def (X := dX i0) Tryz.func97, Tryz.results97]; first | exact J5 | refine J6 ?_)
  all_goals simp [inB, *]
 ·cases h
theorem K97 {X : Ctx} (hX : X.intr 97 = some (pureFn sp97)) (x lo hi : Int) (h : Heap) : Cl X 97 [.int .i64 x, .int .i64 lo, .int .i64 hi] h (.ret (.bool (inB x lo hi)) h none) := Cl.intr hX rfl
def sp190 : List AV -> Option AV
 | [.int .i64 x, .int .i64 off] => some (.agg [.int .i64 (w64 (x - off)), .int .i64 (w64 (x + off))])
 | _ => none
theorem p190 : ∀ args v, sp190 args = some v -> v.pur = true := by
 intro args v h
 unfold sp190 at h
 split at h
 ·cases h; rfl
 ·cases h
set_option maxHeartbeats 200000 in
theorem F190 : IntrFn Tryz.prog 190 (pureFn sp190) := by
 refine pure_fn (X := (dX i0)) i0_sound p190 ?_
 intro args v h
 unfold sp190 at h
 split at h
 ·cases h
  refine ClR.walk (c := _) rfl Tryz.func190 rfl (by kernel_rfl) rfl isRet_fail ?_
  simp only [entryEnv, Nat.reduceAdd]
  repeat' (first | refine goS ?_ | refine go2 (fun hh => ?_) (fun hh => ?_) | fail)
  all_goals (simp only [resV_def (X := dX i0) Tryz.func190, Tryz.results190]; first | exact J5 | refine J6 ?_)
  all_goals rfl
 ·cases h
theorem K190 {X : Ctx} (hX : X.intr 190 = some (pureFn sp190)) (x off : Int) (h : Heap) : Cl X 190 [.int .i64 x, .int .i64 off] h (.ret (.agg [.int .i64 (w64 (x - off)), .int .i64 (w64 (x + off))]) h none) := Cl.intr hX rfl
def sp80 : List AV -> Option AV
 | [.int .i64 x, .int .i64 y] => some (.agg [.int .i64 x, .int .i64 y])
 | _ => none
theorem p80 : ∀ args v, sp80 args = some v -> v.pur = true := by
 intro args v h
 unfold sp80 at h
 split at h
 ·cases h; rfl
 ·cases h
set_option maxHeartbeats 200000 in
theorem F80 : IntrFn Tryz.prog 80 (pureFn sp80) := by
 refine pure_fn (X := (dX i0)) i0_sound p80 ?_
 intro args v h
 unfold sp80 at h
 split at h
 ·cases h
  refine ClR.walk (c := _) rfl Tryz.func80 rfl (by kernel_rfl) rfl isRet_fail ?_
  simp only [entryEnv, Nat.reduceAdd]
  repeat' (first | refine goS ?_ | refine go2 (fun hh => ?_) (fun hh => ?_) | fail)
  all_goals (simp only [resV_def (X := dX i0) Tryz.func80, Tryz.results80]; first | exact J5 | refine J6 ?_)
  all_goals rfl
 ·cases h
theorem K80 {X : Ctx} (hX : X.intr 80 = some (pureFn sp80)) (x y : Int) (h : Heap) : Cl X 80 [.int .i64 x, .int .i64 y] h (.ret (.agg [.int .i64 x, .int .i64 y]) h none) := Cl.intr hX rfl
def sp92 : List AV -> Option AV
 | [.int .i64 x, .int .i64 y] => some (.agg [.int .i64 x, .int .i64 y])
 | _ => none
theorem p92 : ∀ args v, sp92 args = some v -> v.pur = true := by
 intro args v h
 unfold sp92 at h
 split at h
 ·cases h; rfl
 ·cases h
set_option maxHeartbeats 200000 in
theorem F92 : IntrFn Tryz.prog 92 (pureFn sp92) := by
 refine pure_fn (X := (dX i0)) i0_sound p92 ?_
 intro args v h
 unfold sp92 at h
 split at h
 ·cases h
  refine ClR.walk (c := _) rfl Tryz.func92 rfl (by kernel_rfl) rfl isRet_fail ?_
  simp only [entryEnv, Nat.reduceAdd]
  repeat' (first | refine goS ?_ | refine go2 (fun hh => ?_) (fun hh => ?_) | fail)
  all_goals (simp only [resV_def (X := dX i0) Tryz.func92, Tryz.results92]; first | exact J5 | refine J6 ?_)
  all_goals rfl
 ·cases h
def sp252 : List AV -> Option AV
 | [.int .i64 x] => some (.int .i64 x)
 | _ => none
theorem p252 : ∀ args v, sp252 args = some v -> v.pur = true := by
 intro args v h
 unfold sp252 at h
 split at h
 ·cases h; rfl
 ·cases h
set_option maxHeartbeats 200000 in
theorem F252 : IntrFn Tryz.prog 252 (pureFn sp252) := by
 refine pure_fn (X := (dX i0)) i0_sound p252 ?_
 intro args v h
 unfold sp252 at h
 split at h
 ·cases h
  refine ClR.walk (c := _) rfl Tryz.func252 rfl (by kernel_rfl) rfl isRet_fail ?_
  simp only [entryEnv, Nat.reduceAdd]
  repeat' (first | refine goS ?_ | refine go2 (fun hh => ?_) (fun hh => ?_) | fail)
  all_goals (simp only [resV_def (X := dX i0) Tryz.func252, Tryz.results252]; first | exact J5 | refine J6 ?_)
  all_goals rfl
 ·cases h
theorem K252 {X : Ctx} (hX : X.intr 252 = some (pureFn sp252)) (x : Int) (h : Heap) : Cl X 252 [.int .i64 x] h (.ret (.int .i64 x) h none) := Cl.intr hX rfl
def sp253 : List AV -> Option AV
 | [.int .i64 x] => some (.int .i64 x)
 | _ => none
theorem p253 : ∀ args v, sp253 args = some v -> v.pur = true := by
 intro args v h
 unfold sp253 at h
 split at h
 ·cases h; rfl
 ·cases h
set_option maxHeartbeats 200000 in
theorem F253 : IntrFn Tryz.prog 253 (pureFn sp253) := by
 refine pure_fn (X := (dX i0)) i0_sound p253 ?_
 intro args v h
 unfold sp253 at h
 split at h
 ·cases h
  refine ClR.walk (c := _) rfl Tryz.func253 rfl (by kernel_rfl) rfl isRet_fail ?_
  simp only [entryEnv, Nat.reduceAdd]
  repeat' (first | refine goS ?_ | refine go2 (fun hh => ?_) (fun hh => ?_) | fail)
  all_goals (simp only [resV_def (X := dX i0) Tryz.func253, Tryz.results253]; first | exact J5 | refine J6 ?_)
  all_goals rfl
 ·cases h
theorem K253 {X : Ctx} (hX : X.intr 253 = some (pureFn sp253)) (x : Int) (h : Heap) : Cl X 253 [.int .i64 x] h (.ret (.int .i64 x) h none) := Cl.intr hX rfl
def sp158 : List AV -> Option AV
 | [.agg [.int .i64 ax, .int .i64 ay], .agg [.int .i64 bx, .int .i64 by_]] => some (.agg [.int .i64 (maxV ax bx), .int .i64 (minV ay by_)])
 | _ => none
theorem p158 : ∀ args v, sp158 args = some v -> v.pur = true := by
 intro args v h
 unfold sp158 at h
 split at h
 ·cases h; rfl
 ·cases h
set_option maxHeartbeats 200000 in
theorem F158 : IntrFn Tryz.prog 158 (pureFn sp158) := by
 refine pure_fn (X := (dX i0)) i0_sound p158 ?_
 intro args v h
 unfold sp158 at h
 split at h
 ·cases h
  refine ClR.walk (c := _) rfl Tryz.func158 rfl (by kernel_rfl) rfl isRet_fail ?_
  simp only [entryEnv, Nat.reduceAdd]
  repeat' (first | refine goS ?_ | refine go2 (fun hh => ?_) (fun hh => ?_) | fail)
  all_goals (simp only [resV_def (X := dX i0) Tryz.func158, Tryz.results158]; first | exact J5 | refine J6 ?_)
  all_goals rfl
 ·cases h
theorem K158 {X : Ctx} (hX : X.intr 158 = some (pureFn sp158)) (ax ay bx by_ : Int) (h : Heap) : Cl X 158 [.agg [.int .i64 ax, .int .i64 ay], .agg [.int .i64 bx, .int .i64 by_]] h (.ret (.agg [.int .i64 (maxV ax bx), .int .i64 (minV ay by_)]) h none) := Cl.intr hX rfl
def sp174 : List AV -> Option AV
 | [.int .i64 n, .agg [.int .i64 sx, .int .i64 sy]] => some (.int .i64 (maxV sx (minV sy n)))
 | _ => none
theorem p174 : ∀ args v, sp174 args = some v -> v.pur = true := by
 intro args v h
 unfold sp174 at h
 split at h
 ·cases h; rfl
 ·cases h
set_option maxHeartbeats 200000 in
theorem F174 : IntrFn Tryz.prog 174 (pureFn sp174) := by
 refine pure_fn (X := (dX i0)) i0_sound p174 ?_
 intro args v h
 unfold sp174 at h
 split at h
 ·cases h
  refine ClR.walk (c := _) rfl Tryz.func174 rfl (by kernel_rfl) rfl isRet_fail ?_
  simp only [entryEnv, Nat.reduceAdd]
  repeat' (first | refine goS ?_ | refine go2 (fun hh => ?_) (fun hh => ?_) | fail)
  all_goals (simp only [resV_def (X := dX i0) Tryz.func174, Tryz.results174]; first | exact J5 | refine J6 ?_)
  all_goals rfl
 ·cases h
def sp135 : List AV -> Option AV
 | [.agg [.int .i64 sx, .int .i64 sy], .int .i64 lo, .int .i64 hi, .int .i64 wide] => some (.bool (spanB sx sy lo hi wide))
 | _ => none
theorem p135 : ∀ args v, sp135 args = some v -> v.pur = true := by
 intro args v h
 unfold sp135 at h
 split at h
 ·cases h; rfl
 ·cases h
set_option maxHeartbeats 200000 in
theorem F135 : IntrFn Tryz.prog 135 (pureFn sp135) := by
 refine pure_fn (X := (dX i0)) i0_sound p135 ?_
 intro args v h
 unfold sp135 at h
 split at h
 ·cases h
  rename_i sx sy lo hi wide
  refine ClR.walk (c := _) rfl Tryz.func135 rfl (by kernel_rfl) rfl isRet_fail ?_
  simp only [entryEnv, Nat.reduceAdd]
  repeat' (first | refine goS ?_ | refine go2 (fun hh => ?_) (fun hh => ?_) | fail)
  all_goals (simp only [resV_def (X := dX i0) Tryz.func135, Tryz.results135]; first | exact J5 | refine J6 ?_)
  all_goals first | (simp [spanB, w64, *]; done) | (simp [spanB, w64, *]; rfl)
 ·cases h
theorem K135 {X : Ctx} (hX : X.intr 135 = some (pureFn sp135)) (sx sy lo hi wide : Int) (h : Heap) : Cl X 135 [.agg [.int .i64 sx, .int .i64 sy], .int .i64 lo, .int .i64 hi, .int .i64 wide] h (.ret (.bool (spanB sx sy lo hi wide)) h none) := Cl.intr hX rfl
def sp151 : List AV -> Option AV
 | [.agg [.int .i64 sx, .int .i64 sy], .int .i64 most, .int .i64 wide] => some (.bool (spanB sx sy (w64 (-most)) most wide))
 | _ => none
theorem p151 : ∀ args v, sp151 args = some v -> v.pur = true := by
 intro args v h
 unfold sp151 at h
 split at h
 ·cases h; rfl
 ·cases h
set_option maxHeartbeats 200000 in
theorem F151 : IntrFn Tryz.prog 151 (pureFn sp151) := by
 refine pure_fn (X := (dX i0)) i0_sound p151 ?_
 intro args v h
 unfold sp151 at h
 split at h
 ·cases h
  rename_i sx sy most wide
  refine ClR.walk (c := _) rfl Tryz.func151 rfl (by kernel_rfl) rfl isRet_fail ?_
  simp only [entryEnv, Nat.reduceAdd]
  repeat' (first | refine goS ?_ | refine go2 (fun hh => ?_) (fun hh => ?_) | fail)
  all_goals (simp only [resV_def (X := dX i0) Tryz.func151, Tryz.results151]; first | exact J5 | refine J6 ?_)
  all_goals first | (simp [spanB, w64, *]; done) | (simp [spanB, w64, *]; rfl)
 ·cases h
theorem K151 {X : Ctx} (hX : X.intr 151 = some (pureFn sp151)) (sx sy most wide : Int) (h : Heap) : Cl X 151 [.agg [.int .i64 sx, .int .i64 sy], .int .i64 most, .int .i64 wide] h (.ret (.bool (spanB sx sy (w64 (-most)) most wide)) h none) := Cl.intr hX rfl
noncomputable def cA : Itr
 | 93 => some (pureFn sp93)
 | 97 => some (pureFn sp97)
 | 190 => some (pureFn sp190)
 | 80 => some (pureFn sp80)
 | 92 => some (pureFn sp92)
 | 252 => some (pureFn sp252)
 | 253 => some (pureFn sp253)
 | 158 => some (pureFn sp158)
 | 174 => some (pureFn sp174)
 | 135 => some (pureFn sp135)
 | 151 => some (pureFn sp151)
 | _ => none
theorem cA_sound : Sound (dX cA) := dX_sound (fun f g h => by
 unfold cA at h
 split at h
 ·cases h; exact F93
 ·cases h; exact F97
 ·cases h; exact F190
 ·cases h; exact F80
 ·cases h; exact F92
 ·cases h; exact F252
 ·cases h; exact F253
 ·cases h; exact F158
 ·cases h; exact F174
 ·cases h; exact F135
 ·cases h; exact F151
 ·cases h)
end Go.AM
namespace Go.AM
open Go Go.Proofs
variable [Keep]
attribute [local irreducible] W WO WO1 WD WQ WT thenQ blockQ endR isRet retK Cl ClR
structure Pt where
 x : Int
 y : Int
 deriving DecidableEq
def ptC : Cd Pt where
 enc p := .agg [.int .i64 p.x, .int .i64 p.y]
 dec a := match a with | .agg [.int .i64 x, .int .i64 y] => some ⟨x, y⟩ | _ => none
 de _ := rfl
 ed a x h := by split at h <;> cases h; rfl
 pur _ := rfl
theorem pts_idx {a : AV} {l : List Pt} (h : slV ptC a = some l) {k : Nat} {p : Pt} (hp : l[k]? = some p) (H : Heap) : indexAddrV Tryz.prog H 22 a (.int .i64 ↑k) = some (.vptr [.int .i64 p.x, .int .i64 p.y]) :=
 (slV_is h).1.idx (x := ptC.enc p) Tryz.underlying22 ty_lay38 (by simp [hp]) rfl
theorem sl_len {α : Type} {c : Cd α} {a : AV} {l : List α} (h : slV c a = some l) : lenS a = some l.length := by rw [(slV_is h).1.len]; simp
theorem sl_out {α : Type} {c : Cd α} {a : AV} {l : List α} (h : slV c a = some l) : outV (some a) = some a := (slV_is h).1.out
theorem sl_pur {α : Type} {c : Cd α} {a : AV} {l : List α} (h : slV c a = some l) : a.pur = true := (slV_is h).1.pur (enc_pur c l)
theorem sl_max {α : Type} {c : Cd α} {a : AV} {l : List α} (h : slV c a = some l) : l.length <= maxL := (slV_is h).2
theorem take_next {α : Type} {l : List α} {k : Nat} {p : α} (h : l[k]? = some p) : l.take (k + 1) = l.take k ++ [p] := by
 rw [List.take_add_one, h]; rfl
theorem get_some {α : Type} {l : List α} {k : Nat} (h : k < l.length) : ∃ p, l[k]? = some p := ⟨l[k], by simp [h]⟩
def okPt (far : Int) (p : Pt) : Bool := inB p.x (w64 (-far)) far && inB p.y (w64 (-far)) far
def pointsB (l : List Pt) (least most far : Int) : Bool := l.all (okPt far) && inB l.length least most
theorem points_false {l : List Pt} {k : Nat} {p : Pt} {least most far : Int} (h : l[k]? = some p) (hf : okPt far p = false) : pointsB l least most far = false := by
 have : l.all (okPt far) = false := by
  rw [Bool.eq_false_iff]
  intro h2
  have := List.all_eq_true.1 h2 p (List.mem_of_getElem? h)
  rw [hf] at this
  cases this
 simp [pointsB, this]
def sp28 : List AV -> Option AV
 | [a, .int .i64 least, .int .i64 most, .int .i64 far] => (slV ptC a).map fun l => .bool (pointsB l least most far)
 | _ => none
theorem p28 : ∀ args v, sp28 args = some v -> v.flat = true := by
 intro args v h
 unfold sp28 at h
 split at h
 ·simp only [Option.map_eq_some_iff] at h; obtain ⟨l, _, rfl⟩ := h; rfl
 ·cases h
set_option maxHeartbeats 2000000 in
theorem F28 : IntrFn Tryz.prog 28 (flatFn sp28) := by
 refine flat_fn (X := dX cA) cA_sound p28 ?_
 intro args v h
 unfold sp28 at h
 split at h
 ·rename_i a least most far
  simp only [Option.map_eq_some_iff] at h
  obtain ⟨l, hl, rfl⟩ := h
  have hlen := sl_len hl
  have hout := sl_out hl
  have hmax := sl_max hl
  refine ClR.walk (c := _) rfl Tryz.func28 rfl (by kernel_rfl) rfl isRet_fail ?_
  simp only [entryEnv, Nat.reduceAdd]
  repeat' (first | refine goS ?_ | (apply U6; exact Z1; exact Z1; (focus (simp only [List.nil_append, List.append_nil]; first | exact K97 rfl _ _ _ _)); simp only [pM, pN, rR, rP]) | refine go2 (fun hh => ?_) (fun hh => ?_) | fail)
  refine W.loopN l.length (fun k F => ∃ e, F = Fr.mk 28 false e .nil emptyHp [] none /\ e.get 0 = some a /\ e.get 1 = some (.int .i64 least) /\ e.get 2 = some (.int .i64 most) /\ e.get 3 = some (.int .i64 far) /\ e.get 9 = some (.int .i64 ↑k) /\ k <= l.length /\ (l.take k).all (okPt far) = true) ?_ ?_
  ·refine ⟨_, rfl, ?_, ?_, ?_, ?_, ?_, ?_, ?_⟩ <;> simp [go_sem, *]
  rintro k F ⟨e, rfl, h0, h1, h2, h3, h9, hk, hall⟩
  by_cases hlt : k < l.length
  ·obtain ⟨p, hp⟩ := get_some hlt
   have hix := pts_idx hl hp
   have hd : decide ((k : Int) < (l.length : Int)) = true := by simpa using hlt
   have hw := wrap_succ hlt hmax
   have hnx := take_next hp
   clear hl
   repeat' (first | refine goS ?_ | (apply U6; exact Z1; exact Z1; (focus (simp only [List.nil_append, List.append_nil]; first | exact K97 rfl _ _ _ _)); simp only [pM, pN, rR, rP]) | refine go2 (fun hh => ?_) (fun hh => ?_) | fail)
   all_goals first
    | (refine ⟨hlt, _, rfl, ?_, ?_, ?_, ?_, ?_, by omega, ?_⟩ <;> first | exact Z2 | simp_all [okPt, w64])
    | ((simp only [resV_def (X := dX cA) Tryz.func28, Tryz.results28]; first | exact J5 | refine J6 ?_); rw [points_false hp (by simp_all [okPt, w64])])
  ·have hd : decide ((k : Int) < (l.length : Int)) = false := by simpa using hlt
   have hkl : k = l.length := by omega
   subst hkl
   rw [List.take_length] at hall
   repeat' (first | refine goS ?_ | (apply U6; exact Z1; exact Z1; (focus (simp only [List.nil_append, List.append_nil]; first | exact K97 rfl _ _ _ _)); simp only [pM, pN, rR, rP]) | refine go2 (fun hh => ?_) (fun hh => ?_) | fail)
   all_goals (simp only [resV_def (X := dX cA) Tryz.func28, Tryz.results28]; first | exact J5 | refine J6 ?_)
   all_goals simp [pointsB, hall]
 ·cases h
end Go.AM
namespace Go.AM
open Go Go.Proofs Go.Shelf Go.Sort Go.RowKit
variable [Keep]
theorem lib_left {P : Program} {f : FuncId} {C : Cfg} {h : Heap} {w : World} {v : AV} {vs : Array Value} (r : WR C h w)
  (hc : Calls P f vs w fun e w' => ∃ u, e = .returned u /\ VR C v u /\ w'.os = w.os /\ w'.tape = w.tape /\ w'.output = w.output /\ w.heap.size <= w'.heap.size /\ ∀ β, β < w.heap.size -> w'.heap[β]? = w.heap[β]?) (cs : List Frame) :
  Left P f C h w (lone (Frame.enter P f vs .normal) cs w) cs (.ret v h none) := by
 obtain ⟨e, w', fr, ⟨u, rfl, hv, h1, h2, h3, h4, hs⟩, hst, hfn, hlv⟩ := hc cs
 have hcell : ∀ x u, w.cell? x = some u -> w'.cell? x = some u := by
  intro x u hx
  have hlt : x.block < w.heap.size := by
   rcases Nat.lt_or_ge x.block w.heap.size with h | h
   ·exact h
   ·simp [World.cell?, Array.getElem?_eq_none h] at hx
  unfold World.cell? at hx ⊢
  rw [hs _ hlt]
  exact hx
 refine ⟨C, w', fr, u, hst, hlv, hfn, hv, ⟨fun x v e => hcell _ _ (r.sig x v e), fun id blk e => ?_, r.inj, r.apart, r.fresh, r.base.on (fun _ _ e => e) (fun x v e => hs _ (WR.sig_lt (F := Fr.mk 0 false .nil .nil h [] none) r e))⟩, ⟨.refl C, h1, h2, h3, h4, fun β hb _ _ => hs β hb, fun _ _ l => .inl l, fun _ _ o => .inr o, fun _ _ _ s => .inl s, Nat.le_refl _⟩⟩
 obtain ⟨L, k1, k2⟩ := r.blk id blk e
 exact ⟨L, k1, k2.same (.refl C) (hs _ k2.lt)⟩
theorem grow_same (w : World) (k : Nat) (os : Array Obj) : (grow (w.drewN k) os).os = w.os /\ (grow (w.drewN k) os).tape = w.tape /\ (grow (w.drewN k) os).output = w.output /\ w.heap.size <= (grow (w.drewN k) os).heap.size /\ ∀ β, β < w.heap.size -> (grow (w.drewN k) os).heap[β]? = w.heap[β]? := by
 refine ⟨rfl, rfl, rfl, ?_, fun β hb => ?_⟩
 ·simp [grow, World.drewN]
 ·simp only [grow, World.drewN]
  rw [Array.getElem?_append_left hb]
def digF : Nat -> Nat -> List UInt8
 | 0, _ => []
 | n + 1, u => if Nat.blt u 10 then [UInt8.ofNat (48 + u)] else digF n (u / 10) ++ [UInt8.ofNat (48 + u % 10)]
theorem digF_ok : ∀ (n u : Nat), u < 10 ^ n -> 0 < n -> digF n u = Lib.decDigits u := by
 intro n
 induction n with
 | zero => intro u _ h; omega
 | succ n ih =>
  intro u hu _
  rw [Lib.decDigits]
  simp only [digF]
  by_cases h : u < 10
  ·rw [if_pos (by simpa [Nat.blt_eq] using h), dif_pos h]
  ·rw [if_neg (by simpa [Nat.blt_eq] using h), dif_neg h, ih]
   ·rw [Nat.pow_succ] at hu; omega
   ·rcases Nat.eq_zero_or_pos n with rfl | h'
    ·simp at hu; omega
    ·exact h'
def itoaF (n : Int) : List UInt8 := match n with
 | .ofNat u => digF 20 u
 | .negSucc u => 45 :: digF 20 (u + 1)
theorem itoaF_ok (n : Int) (h0 : -9223372036854775808 <= n) (h1 : n <= 9223372036854775807) : itoaF n = Lib.itoa n := by
 unfold itoaF Lib.itoa
 cases n with
 | ofNat u =>
  have : ¬ (Int.ofNat u < 0) := by simp
  rw [if_neg this]
  have hu : u < 9223372036854775808 := by simp at h1; omega
  exact digF_ok 20 u (by omega) (by omega)
 | negSucc u =>
  have : Int.negSucc u < 0 := Int.negSucc_lt_zero u
  rw [if_pos this]
  have hu : u + 1 <= 9223372036854775808 := by omega
  show 45 :: digF 20 (u + 1) = 45 :: Lib.decDigits (u + 1)
  rw [digF_ok 20 (u + 1) (by omega) (by omega)]
def spItoa : List AV -> Option AV
 | [.int .i64 n] => if decide (-9223372036854775808 <= n) && decide (n <= 9223372036854775807) then some (.str (itoaF n)) else none
 | _ => none
def atOnce (spec : List AV -> Option AV) : List AV -> Heap -> Option (AV × Heap) := fun args h => match spec args with | some v => some (v, h) | none => none
def TabK (P : Program) : Prop := ∀ w : World, (∀ x v o, Keep.sig x = some v -> Keep.obj x.block = some o -> w.heap[x.block]? = some o) -> Lib.TabIs P w "internal/strconv.uint64pow10" .u64 Lib.pow10Tab
theorem itoa_intr {P : Program} {ρ : Ren} (L : LaysM.n171 P ρ) (hT : TabK P) (hb : ∃ fn, P.funcs[ρ.f 171]? = some fn /\ fn.body.isSome = true) : IntrFn P (ρ.f 171) (atOnce spItoa) := by
 intro args h v h' hg C w vs r hv
 refine ⟨hb, fun cs => ?_⟩
 unfold atOnce at hg
 split at hg
 ·rename_i u hsp
  cases hg
  unfold spItoa at hsp
  split at hsp
  ·rename_i n
   split at hsp
   ·rename_i hc
    cases hsp
    simp only [Bool.and_eq_true, decide_eq_true_eq] at hc
    obtain ⟨hs, hi⟩ := hv
    have hvs : vs = #[.int .i64 n] := by
     have h0 : VR C (.int .i64 n) (vs.getD 0 undef) := hi 0 (by simp)
     have hs' : vs.size = 1 := by simpa using hs
     have e : vs = #[vs.getD 0 undef] := by
      apply Array.ext (by simpa using hs')
      intro i hi1 hi2
      have : i = 0 := by simp at hi2; omega
      subst this
      simp [Array.getD, hs']
     generalize vs.getD 0 undef = x at h0 e
     cases h0
     exact e
    subst hvs
    refine lib_left r ((Any.strconv_Itoa L n hc.1 hc.2 w (hT w r.base.2)).mono fun e w' q => ?_) cs
    obtain ⟨rfl, k, os, rfl⟩ := q
    refine ⟨_, rfl, ?_, grow_same w k os⟩
    rw [<- itoaF_ok n hc.1 hc.2]
    exact .str _
   ·cases hsp
  ·cases hsp
 ·cases hg
end Go.AM
namespace Go.AM
open Go Go.RowKit
section
variable {P : Program} {H : Type} {enc : TypeId × Value -> H} {w : World}
theorem VL.vrs {C : Cfg} {xa : List AV} {vs : List Value} (h : VL C xa vs) : vs.toArray.size = xa.length /\ ∀ i, i < xa.length -> VR C (xa.getD i .junk) (vs.toArray.getD i undef) := by
 refine ⟨by simp [h.len], fun i hi => ?_⟩
 obtain ⟨_, v, hv, hr⟩ := h.get i xa[i] (by simp [hi])
 have hi2 : i < vs.length := by rw [<- h.len]; exact hi
 have e1 : xa.getD i .junk = xa[i] := by simp [List.getD, hi]
 have e2 : vs.toArray.getD i undef = v := by
  simp only [Array.getD_eq_getD_getElem?, List.getElem?_toArray, hv, Option.getD_some]
 rw [e1, e2]
 exact hr
theorem openV {r : Reach} {base : Nat} {t : TypeId} {v : Value} {d : DataW H} {p : List MemPlace} (n : Nat) (hpl : plainT P n t = true) (hval : Value.okWide P w r base t v)
  (h : DataW.Trod enc P w 0 (fun _ => true) true t v d p) : ∃ xa, VR ⟨fun _ => none, w.cell?⟩ (asElem (isAggT P t) xa) v /\ Sh P n t xa := by
 obtain ⟨fuel, hx⟩ := h
 obtain ⟨xa, h1, h2⟩ := opens n t v.cells.toList fuel _ hpl hx
 refine ⟨xa, ?_, h2⟩
 cases n with
 | zero => simp [plainT] at hpl
 | succ n =>
  unfold plainT at hpl
  unfold Value.okWide at hval
  cases hu : P.underlying t with
  | none => rw [hu] at hpl; cases hpl
  | some desc =>
   have plain : isAggT P t = false -> (∀ cs, v ≠ .agg cs) -> VR ⟨fun _ => none, w.cell?⟩ (asElem (isAggT P t) xa) v := by
    intro ha hv
    have : v.cells.toList = [v] := by
     cases v <;> first | rfl | exact absurd rfl (hv _)
    rw [this] at h1
    cases h1 with
    | cons k1 k2 k3 =>
     cases k3
     rw [ha]
     exact k1
   rw [hu] at hpl hval
   cases desc with
   | bool => exact plain (by simp [isAggT, hu]) (fun cs e => by subst e; simp [Cell.okWide, hu, Cell.ok] at hval)
   | int k => exact plain (by simp [isAggT, hu]) (fun cs e => by subst e; simp [Cell.okWide, hu, Cell.ok] at hval)
   | string => exact plain (by simp [isAggT, hu]) (fun cs e => by subst e; simp [Cell.okWide, hu, Cell.ok] at hval)
   | slice e => exact plain (by simp [isAggT, hu]) (fun cs e => by subst e; simp [Cell.okWide, hu, Cell.ok] at hval)
   | struct fs =>
    obtain ⟨cs, rfl, _, _⟩ := hval
    have ha : isAggT P t = true := by simp [isAggT, hu]
    rw [ha]
    obtain ⟨q1, q2⟩ := VL.vrs h1
    have : (Value.agg cs).cells.toList.toArray = cs := by simp [Value.cells]
    rw [this] at q1 q2
    exact .agg q1 q2 h1.one
   | _ => cases hpl
theorem VRs.cons2 {C : Cfg} {a : AV} {v : Value} {xa : List AV} {vs : List Value} (h : VR C a v) (k : VRs C xa vs.toArray) : VRs C (a :: xa) (v :: vs).toArray :=
 ⟨by simpa using k.1, fun i hi => by
  cases i with
  | zero => exact h
  | succ i =>
   have := k.2 i (by simpa using hi)
   simpa [List.getD, Array.getD_eq_getD_getElem?] using this⟩
theorem map_enc {α : Type} (c : Cd α) : ∀ (es : List AV), (∀ x ∈ es, ∃ y, x = c.enc y) -> ∃ l : List α, es = l.map c.enc := by
 intro es
 induction es with
 | nil => intro _; exact ⟨[], rfl⟩
 | cons a es ih =>
  intro h
  obtain ⟨y, rfl⟩ := h a (by simp)
  obtain ⟨l, rfl⟩ := ih (fun x hx => h x (by simp [hx]))
  exact ⟨y :: l, rfl⟩
theorem Sh.slice {α : Type} (c : Cd α) {n : Nat} {t e : TypeId} {xa : List AV} (hu : P.underlying t = some (.slice e)) (he : ∀ xs, Sh P n e xs -> ∃ y, asElem (isAggT P e) xs = c.enc y) (h : Sh P (n + 1) t xa) :
  ∃ (a : AV) (l : List α), xa = [a] /\ isSl a (l.map c.enc) := by
 unfold Sh at h
 rw [hu] at h
 obtain ⟨a, es, rfl, h1, _, h3⟩ := h
 obtain ⟨l, rfl⟩ := map_enc c es (fun x hx => by
  obtain ⟨xs, rfl, k⟩ := h3 x hx
  obtain ⟨y, hy⟩ := he xs k
  exact ⟨y, hy⟩)
 exact ⟨a, l, rfl, h1⟩
theorem Sh.int {n : Nat} {t : TypeId} {k : IntKind} {xa : List AV} (hu : P.underlying t = some (.int k)) (h : Sh P (n + 1) t xa) : ∃ i, xa = [.int k i] /\ (Lit.int k i).wf = true := by
 unfold Sh at h
 rw [hu] at h
 exact h
theorem Sh.struct {n : Nat} {t : TypeId} {fs : Array Field} {xa : List AV} (hu : P.underlying t = some (.struct fs)) (h : Sh P (n + 1) t xa) : ShF (Sh P n) fs.toList xa := by
 unfold Sh at h
 rw [hu] at h
 exact h
end
variable [Keep]
theorem Ext.below {C C' : Cfg} {h' : Heap} {w w' : World} (e : Ext C emptyHp (fun _ => False) w C' h' (fun _ => False) w') : Below w.heap.size w w' :=
 ⟨e.os, e.tape, e.output, e.size, fun k hk => e.same k hk emptyHp_live id⟩
end Go.AM
namespace Go.AM
open Go Go.ChangeShapes Go.WideShapes Go.ChangeAt Go.RowKit
section
variable {P : Program} {H : Type} {enc : TypeId × Value -> H} {W : World}
inductive ArgsOk (P : Program) : List TypeId -> List AV -> Prop
 | nil : ArgsOk P [] []
 | cons {t : TypeId} {ts : List TypeId} {xs : List AV} {xa : List AV} : Sh P 9 t xs -> ArgsOk P ts xa -> ArgsOk P (t :: ts) (asElem (isAggT P t) xs :: xa)
theorem openAll {r : Reach} {base : Nat} : ∀ (ts : List TypeId) (vs : List Value) (ds : List (DataW H)) (ps : List MemPlace), DataW.TrodAll enc P W 0 (fun _ => true) true ts vs ds ps -> (∀ t ∈ ts, plainT P 9 t = true) ->
  (∀ (j : Nat) t v, ts[j]? = some t -> vs[j]? = some v -> Value.okWide P W r base t v) -> ∃ avs, VRs ⟨fun _ => none, W.cell?⟩ avs vs.toArray /\ ArgsOk P ts avs := by
 intro ts
 induction ts with
 | nil =>
  intro vs ds ps h _ _
  obtain ⟨rfl, _, _⟩ := trodAll_nil h
  exact ⟨[], ⟨rfl, fun i hi => by simp at hi⟩, .nil⟩
 | cons t ts ih =>
  intro vs ds ps h hp hv
  obtain ⟨v, vs', d, ds', p, q, rfl, rfl, rfl, h1, h2⟩ := trodAll_cons h
  obtain ⟨xs, k1, k2⟩ := openV 9 (hp t (by simp)) (hv 0 t v rfl rfl) h1
  obtain ⟨xa, g1, g2⟩ := ih vs' ds' q h2 (fun t' ht' => hp t' (by simp [ht'])) (fun j t' v' e1 e2 => hv (j + 1) t' v' (by simpa using e1) (by simpa using e2))
  exact ⟨_, VRs.cons2 k1 g1, .cons k2 g2⟩
theorem backAll {W' : World} (hl : laidOutB P = true) (hb : Below W.heap.size W W') : ∀ (ts : List TypeId) (vs : List Value) (ds : List (DataW H)) (ps : List MemPlace), DataW.TrodAll enc P W 0 (fun _ => true) true ts vs ds ps ->
  (∀ t ∈ ts, P.readableRec t = true /\ t < P.types.size) -> (∀ x ∈ ps, x.block < W.heap.size) -> DataW.TrodAll enc P W' 0 (fun b => decide (b < W.heap.size)) true ts vs ds ps := by
 intro ts
 induction ts with
 | nil =>
  intro vs ds ps h _ _
  obtain ⟨rfl, rfl, rfl⟩ := trodAll_nil h
  exact trodAll_mk0
 | cons t ts ih =>
  intro vs ds ps h hp hlt
  obtain ⟨v, vs', d, ds', p, q, rfl, rfl, rfl, h1, h2⟩ := trodAll_cons h
  exact ⟨p, q, Below.trod hl (hp t (by simp)).1 (hp t (by simp)).2 h1 hb (fun x hx => hlt x (by simp [hx])), ih vs' ds' q h2 (fun t' ht' => hp t' (by simp [ht'])) (fun x hx => hlt x (by simp [hx])), rfl⟩
end
end Go.AM
namespace Go.Proofs.YtlhcjccaimmhgaaGreatDoor
open Go Go.AM Go.ChangeShapes Go.WideShapes Go.ChangeAt Go.RowKit
def laidL : List (String × DataW Unit) := [("math/bits.deBruijn32tab", Rows.laid_math_bits_deBruijn32tab), ("math/bits.deBruijn64tab", Rows.laid_math_bits_deBruijn64tab), ("internal/strconv.uint64pow10", Rows.laid_internal_strconv_uint64pow10)]
theorem own : ownKnob Tryz.prog.godebug = none := by kernel_rfl
theorem gPow : Tryz.prog.globalNamed "internal/strconv.uint64pow10" = some 0 := by kernel_rfl
theorem tPow : (Tryz.prog.globals[0]?).map (·.type) = some 294 := by kernel_rfl
theorem uPow : ∃ e, Tryz.prog.underlying 294 = some (.array 20 e) /\ Tryz.prog.underlying e = some (.int .u64) /\ Tryz.prog.cellsOf e = 1 := ⟨(match Tryz.prog.underlying 294 with | some (.array _ e) => e | _ => 0), by kernel_rfl, by kernel_rfl, by kernel_rfl⟩
theorem cPow : Tryz.prog.cellsOf 294 = 20 := by kernel_rfl
theorem dPow : Rows.laid_internal_strconv_uint64pow10 (H := Unit) = Lib.tabData .u64 Lib.pow10Tab := by kernel_rfl
theorem laidOut : laidOutB Tryz.prog = true := by kernel_rfl
theorem tabK_of {W : World} (hL : laidMetH Tryz.prog laidL W) : @TabK ⟨W.cell?, fun b => W.heap[b]?⟩ Tryz.prog := by
 rw [MakeChecks.laidMetH_plain _ _ _ (by kernel_rfl)] at hL
 obtain ⟨ps, ⟨_, _, _, _, _, _, _, _, _, _, ⟨_, _, _, _, _, _, _, _, _, _, ⟨g, t, cs, fuel, p, q, hg, ht, hv, hd, _, _⟩, _⟩, _⟩, _, _⟩ := hL
 obtain rfl := Option.some.inj (gPow.symm.trans hg)
 obtain rfl := Option.some.inj (tPow.symm.trans ht)
 obtain ⟨e, u1, u2, u3⟩ := uPow
 rw [dPow] at hd
 have hcs := Lib.cells_of_tab u1 u2 u3 cPow hd
 intro w h
 have hheap : ∃ T fr, W.heap[0]? = some (.cells cs T fr) := by
  unfold World.var? at hv
  rw [gPow] at hv
  simp only [Option.bind_some] at hv
  split at hv
  ·rename_i c T fr hh
   cases hv
   exact ⟨T, fr, hh⟩
  ·cases hv
 obtain ⟨T, fr, hh⟩ := hheap
 have h0 : W.cell? ⟨0, 0, none⟩ = some (.int .u64 1) := by
  have := World.var?_cell hg hv 0
  rw [this]
  have : cs.toList[0]? = some (.int .u64 1) := by rw [hcs]; rfl
  simpa using this
 have hw := h ⟨0, 0, none⟩ _ _ h0 hh
 unfold Lib.TabIs World.var?
 rw [gPow]
 simp only [Option.bind_some, hw]
 rw [<- hcs]
theorem lawHolds {f : FuncId} {fn : Func} {s : ChangeSpec} {H : Type} {enc : TypeId × Value -> H} (hfn : Tryz.prog.funcs[f]? = some fn) (hres : fn.resultTypes = #[4]) (hvars : s.vars = [])
  (hs : ∀ ds : List (DataW H), ds.length = fn.params.size -> s.fn H ds = { results := [.lit (.bool true)], args := ds })
  (hpl : ∀ t ∈ fn.params.toList, plainT Tryz.prog 9 t = true) (hrd : ∀ t ∈ fn.params.toList, Tryz.prog.readableRec t = true /\ t < Tryz.prog.types.size)
  (law : ∀ [Keep], TabK Tryz.prog -> ∀ avs, ArgsOk Tryz.prog fn.params.toList avs -> ∃ X, X.P = Tryz.prog /\ Sound X /\ ∃ h', Cl X f avs emptyHp (.ret (.bool true) h' none))
  (W : World) (base : Nat) (args : Array Value) (ds gs : List (DataW H)) (before : List MemPlace)
  (hval : ∀ (j : Nat) t v, fn.params[j]? = some t -> args[j]? = some v -> Value.okWide Tryz.prog W .any base t v)
  (hW : DataW.Whole enc Tryz.prog fn.params.toList s.vars false W args.toList ds gs before) (hL : laidMetH Tryz.prog laidL W) :
  Calls Tryz.prog f args W fun e W' => ∃ v, e = .returned v /\ s.post enc Tryz.prog fn false true false false W args v W' := by
 have hW' := hW
 obtain ⟨p, q, hA, hV, hpq, _, _⟩ := hW
 rw [hvars] at hV
 obtain ⟨rfl, rfl⟩ := trodVars_none hV
 have hlen : ds.length = fn.params.size := by simpa using (trodAll_length hA).2
 obtain ⟨avs, h1, h2⟩ := openAll fn.params.toList args.toList ds p hA hpl (fun j t v e1 e2 => hval j t v (by simpa using e1) (by simpa using e2))
 letI : Keep := ⟨W.cell?, fun b => W.heap[b]?⟩
 obtain ⟨X, hX, hsound, h', hcl⟩ := law (tabK_of hL) avs h2
 have wr : WR ⟨fun _ => none, W.cell?⟩ emptyHp W := ⟨fun _ _ e => e, fun id blk e => by simp [emptyHp, Heap.get] at e, fun id id' blk blk' L L' e => by simp [emptyHp, Heap.get] at e, fun id blk L x v e => by simp [emptyHp, Heap.get] at e, fun id L e => (by cases e), ⟨fun _ _ e => e, fun x v o _ e => e⟩⟩
 have hc := hsound.calls hcl wr (vs := args) (by simpa using h1)
 rw [hX] at hc
 refine hc.mono fun e W' ⟨C', u, he, hu, _, hext⟩ => ?_
 subst he
 cases hu
 have hbelow := hext.below
 have hlt : ∀ x ∈ p, x.block < W.heap.size := fun x hx => by simpa using hW'.lt x (by rw [hpq]; simp [hx])
 refine ⟨_, rfl, ds, [], before, [], p, [], hW', ?_, ?_, ?_, hbelow.frame _, fun h => by cases h⟩
 ·rw [List.append_nil, hs ds hlen, hres]
  exact trodAll_mk1 (shut_bool Tryz.underlying4 true)
 ·rw [List.append_nil, hs ds hlen]
  exact backAll laidOut hbelow _ _ _ _ hA hrd hlt
 ·rw [List.append_nil, hs ds hlen, hvars]
  rfl
end Go.Proofs.YtlhcjccaimmhgaaGreatDoor
namespace Go.AM
open Go Go.Proofs
variable [Keep]
attribute [local irreducible] W WO WO1 WD WQ WT thenQ blockQ endR isRet retK Cl ClR
def flatL (l : List Pt) : List Int := l.flatMap fun p => [p.x, p.y]
theorem flatL_take {l : List Pt} {k : Nat} {p : Pt} (h : l[k]? = some p) : flatL (l.take (k + 1)) = flatL (l.take k) ++ [p.x, p.y] := by
 rw [take_next h]; simp [flatL]
theorem flatL_len (l : List Pt) : (flatL l).length = 2 * l.length := by
 induction l with
 | nil => rfl
 | cons p l ih => simp only [flatL, List.flatMap_cons, List.length_append, List.length_cons, List.length_nil] at ih ⊢; omega
def sp98 : List AV -> Option AV
 | [a] => (slV ptC a).map fun l => slN ((flatL l).map intC.enc)
 | _ => none
theorem slN_pur {l : List AV} (h : ∀ x ∈ l, x.pur = true) : (slN l).pur = true := (slN_is l).pur h
theorem p98 : ∀ args v, sp98 args = some v -> v.pur = true := by
 intro args v h
 unfold sp98 at h
 split at h
 ·simp only [Option.map_eq_some_iff] at h; obtain ⟨l, _, rfl⟩ := h; exact slN_pur (enc_pur _ _)
 ·cases h
set_option maxHeartbeats 400000 in
theorem F98 : IntrFn Tryz.prog 98 (pureFn sp98) := by
 refine pure_fn (X := dX cA) cA_sound p98 ?_
 intro args v h
 unfold sp98 at h
 split at h
 ·rename_i a
  simp only [Option.map_eq_some_iff] at h
  obtain ⟨l, hl, rfl⟩ := h
  have hlen := sl_len hl
  have hout := sl_out hl
  have hmax := sl_max hl
  refine ClR.walk (c := _) rfl Tryz.func98 rfl (by kernel_rfl) rfl isRet_fail ?_
  simp only [entryEnv, Nat.reduceAdd]
  repeat' (first | (apply W.drawQ (id := 5) (l1 := [0, 1, 2, 3, 4, 5, 6, 7, 8, 9, 10, 11]) (l2 := [12, 13]); kernel_rfl; kernel_rfl; kernel_rfl; exact Z4) | refine go1 ?_ | refine go2 (fun hh => ?_) (fun hh => ?_) | fail)
  refine W.loopN l.length (fun k F => ∃ e hp u, F = Fr.mk 98 false e .nil hp [] none /\ Blt hp u 1 ((flatL (l.take k)).map intC.enc) /\ e.get 0 = some a /\ e.get 3 = some u /\ e.get 4 = some (.int .i64 ↑k) /\ k <= l.length) ?_ ?_
  ·refine ⟨_, _, _, rfl, Blt.nil, ?_, ?_, ?_, ?_⟩ <;> simp [go_sem, *]
  rintro k F ⟨e, hp0, u, rfl, hB, h0, h3, h4, hk⟩
  have hbo := hB.out
  by_cases hlt : k < l.length
  ·obtain ⟨p, hp⟩ := get_some hlt
   have hix := pts_idx hl hp
   have hd : decide ((k : Int) < (l.length : Int)) = true := by simpa using hlt
   have hw := wrap_succ hlt hmax
   have hfl := flatL_take hp
   have hll : ((flatL (l.take k)).map intC.enc).length + 2 <= most := by
    have := flatL_len (l.take k)
    simp only [List.length_map, List.length_take] at this ⊢
    unfold most; unfold maxL at hmax; omega
   clear hl hp
   repeat' (first | (apply WO1.append (t := 39) (u := 39) (e := 3) (e' := 3) (sz := 1) (tl := []); (focus assumption); exact Z1; exact rfl; (focus exact Z2); (focus exact Z2); (focus exact Z2); (focus (exact ty_row39)); exact Z1; (focus (intro v hv; simp at hv; rcases hv with rfl | rfl <;> rfl)); (focus (simp; simp at *; omega)); (focus (simp)); (intro v' h' hB' ho' hK'; simp only [pM, pN])) | (apply W.drawQ (id := 5) (l1 := [0, 1, 2, 3, 4, 5, 6, 7, 8, 9, 10, 11]) (l2 := [12, 13]); kernel_rfl; kernel_rfl; kernel_rfl; exact Z4) | refine go1 ?_ | refine go2 (fun hh => ?_) (fun hh => ?_) | fail)
   refine ⟨hlt, _, _, v', rfl, ?_, ?_, ?_, ?_, by omega⟩
   ·rw [hfl]; simpa [intC] using hB'
   all_goals exact Z2
  ·have hd : decide ((k : Int) < (l.length : Int)) = false := by simpa using hlt
   have hkl : k = l.length := by omega
   subst hkl
   rw [List.take_length] at hB
   obtain ⟨h', hz, hz2, hz1⟩ := hB.freeze
   repeat' (first | refine goS ?_ | refine go2 (fun hh => ?_) (fun hh => ?_) | fail)
   all_goals (simp only [resV_def (X := dX cA) Tryz.func98, Tryz.results98]; first | exact J5 | refine J6 ?_)
 ·cases h
end Go.AM
namespace Go.AM
open Go Go.Proofs
variable [Keep]
attribute [local irreducible] W WO WO1 WD WQ WT thenQ blockQ endR isRet retK Cl ClR
theorem ints_idx {a : AV} {l : List Int} (h : slV intC a = some l) {k : Nat} {p : Int} (hp : l[k]? = some p) (H : Heap) : indexAddrV Tryz.prog H 39 a (.int .i64 ↑k) = some (.vptr [.int .i64 p]) :=
 (slV_is h).1.idx (x := intC.enc p) Tryz.underlying39 ty_lay3 (by simp [hp]) rfl
theorem K98 {X : Ctx} (hX : X.intr 98 = some (pureFn sp98)) (a : AV) (l : List Pt) (ha : slV ptC a = some l) (h : Heap) : Cl X 98 [a] h (.ret (slN ((flatL l).map intC.enc)) h none) :=
 Cl.intr hX (by simp [pureFn, AV.purL, sl_pur ha, sp98, ha])
theorem view_pur {h : Heap} {a : AV} (hp : a.pur = true) : viewV h a = some a := by
 unfold viewV
 split
 ·simp [AV.pur] at hp
 ·simp [hp]
theorem K28 {X : Ctx} (hX : X.intr 28 = some (flatFn sp28)) (a : AV) (l : List Pt) (least most far : Int) (ha : slV ptC a = some l) (h : Heap) : Cl X 28 [a, .int .i64 least, .int .i64 most, .int .i64 far] h (.ret (.bool (pointsB l least most far)) h none) :=
 Cl.intr hX (by simp [flatFn, viewVs, view_pur (sl_pur ha), view_pur (a := .int .i64 least) rfl, view_pur (a := .int .i64 most) rfl, view_pur (a := .int .i64 far) rfl, sp28, ha])
def sp53 : List AV -> Option AV
 | [a, b] => match slV intC a, slV intC b with
  | some l, some r => some (.bool (decide (l = r)))
  | _, _ => none
 | _ => none
theorem p53 : ∀ args v, sp53 args = some v -> v.flat = true := by
 intro args v h
 unfold sp53 at h
 split at h
 ·split at h <;> cases h
  rfl
 ·cases h
set_option maxHeartbeats 400000 in
theorem F53 : IntrFn Tryz.prog 53 (flatFn sp53) := by
  refine flat_fn (X := dX cA) cA_sound p53 ?_
  intro args v h
  unfold sp53 at h
  split at h
  · rename_i a b
    split at h
    · rename_i l r hl hr
      cases h
      have hlen := sl_len hl
      have hout := sl_out hl
      have hmax := sl_max hl
      have hlen2 := sl_len hr
      have hout2 := sl_out hr
      refine ClR.walk (c := _) rfl Tryz.func53 rfl (by kernel_rfl) rfl isRet_fail ?_
      simp only [entryEnv, Nat.reduceAdd]
      by_cases hlr : l.length = r.length
      · have hne : ((l.length : Int) != (r.length : Int)) = false := by simp [hlr]
        have HL := Lib.hid hlr
        clear hlr
        repeat' (first | refine goS ?_ | refine go2 (fun hh => ?_) (fun hh => ?_) | fail)
        refine W.loopN l.length (fun k F => ∃ e, F = Fr.mk 53 false e .nil emptyHp [] none /\ l.take k = r.take k /\ e.get 0 = some a /\ e.get 1 = some b /\ e.get 5 = some (.int .i64 ↑k) /\ k <= l.length) ?_ ?_
        · refine ⟨_, rfl, ?_, ?_, ?_, ?_, ?_⟩ <;> simp [go_sem, *]
        clear hne
        rintro k F ⟨e, rfl, ht, h0, h1, h5, hk⟩
        by_cases hlt : k < l.length
        · obtain ⟨p, hp⟩ := get_some hlt
          obtain ⟨q, hq⟩ := get_some (show k < r.length by have := HL.out; omega)
          have hix := ints_idx hl hp
          have hix2 := ints_idx hr hq
          have hd : decide ((k : Int) < (l.length : Int)) = true := by simpa using hlt
          have hw := wrap_succ hlt hmax
          have hfl := take_next hp
          have hfr := take_next hq
          have hnp : p ≠ q -> decide (l = r) = false := fun hne => by
            simp only [decide_eq_false_iff_not]
            intro e
            subst e
            rw [hp] at hq
            exact hne (Option.some.inj hq)
          clear hl hr hp hq
          repeat' (first | (apply W.drawQ (id := 6) (l1 := [0, 1, 2, 3, 4, 5, 6, 7, 8]) (l2 := []); kernel_rfl; kernel_rfl; kernel_rfl; exact Z4) | refine go1 ?_ | refine go2 (fun hh => ?_) (fun hh => ?_) | fail)
          all_goals first
            | (refine ⟨hlt, _, rfl, ?_, ?_, ?_, ?_, by omega⟩
               · have : p = q := by simpa using hh
                 rw [hfl, hfr, ht, this]
               all_goals exact Z2)
            | ((simp only [resV_def (X := dX cA) Tryz.func53, Tryz.results53]; first | exact J5 | refine J6 ?_)
               rw [hnp (by simpa using hh)])
        · have hd : decide ((k : Int) < (l.length : Int)) = false := by simpa using hlt
          have hkl : k = l.length := by omega
          subst hkl
          rw [List.take_length, HL.out, List.take_length] at ht
          have HT := Lib.hid ht
          clear ht
          repeat' (first | refine goS ?_ | refine go2 (fun hh => ?_) (fun hh => ?_) | fail)
          all_goals (simp only [resV_def (X := dX cA) Tryz.func53, Tryz.results53]; first | exact J5 | refine J6 ?_)
          simp [HT.out]
      · have hne : ((l.length : Int) != (r.length : Int)) = true := by
          rw [bne_iff_ne]; omega
        have hnl : decide (l = r) = false := by
          simp only [decide_eq_false_iff_not]; intro e; exact hlr (by rw [e])
        clear hlr
        repeat' (first | refine goS ?_ | refine go2 (fun hh => ?_) (fun hh => ?_) | fail)
        all_goals (simp only [resV_def (X := dX cA) Tryz.func53, Tryz.results53]; first | exact J5 | refine J6 ?_)
    · cases h
  · cases h
theorem K53 {X : Ctx} (hX : X.intr 53 = some (flatFn sp53)) (a b : AV) (l r : List Int) (ha : slV intC a = some l) (hb : slV intC b = some r) (h : Heap) : Cl X 53 [a, b] h (.ret (.bool (decide (l = r))) h none) :=
 Cl.intr hX (by simp [flatFn, viewVs, view_pur (sl_pur ha), view_pur (sl_pur hb), sp53, ha, hb])
def quarter (p : Pt) : Pt := ⟨w64 (-p.y), p.x⟩
def iter {α : Type} (f : α -> α) : Nat -> α -> α
 | 0, x => x
 | n + 1, x => f (iter f n x)
def turnR (p : Pt) (turn : Int) : Pt := iter quarter (turn.tmod 4).toNat (if turn >= 4 then ⟨w64 (-p.x), p.y⟩ else p)
def sp81 : List AV -> Option AV
 | [.agg [.int .i64 x, .int .i64 y], .int .i64 turn] => some (ptC.enc (turnR ⟨x, y⟩ turn))
 | _ => none
theorem p81 : ∀ args v, sp81 args = some v -> v.pur = true := by
 intro args v h
 unfold sp81 at h
 split at h
 ·cases h; rfl
 ·cases h
set_option maxHeartbeats 400000 in
theorem F81 : IntrFn Tryz.prog 81 (pureFn sp81) := by
 refine pure_fn (X := dX cA) cA_sound p81 ?_
 intro args v h
 unfold sp81 at h
 split at h
 ·cases h
  rename_i x y turn
  refine ClR.walk (c := _) rfl Tryz.func81 rfl (by kernel_rfl) rfl isRet_fail ?_
  simp only [entryEnv, Nat.reduceAdd]
  repeat' (first | refine goS ?_ | refine go2 (fun hh => ?_) (fun hh => ?_) | fail)
  all_goals
   refine W.loopN (turn.tmod 4).toNat (fun k F => ∃ e lm, F = Fr.mk 81 false e lm emptyHp [] none /\ lm.get 2 = some (0, [.int .i64 (iter quarter k (if turn >= 4 then ⟨w64 (-x), y⟩ else ⟨x, y⟩)).x, .int .i64 (iter quarter k (if turn >= 4 then ⟨w64 (-x), y⟩ else ⟨x, y⟩)).y]) /\ lm.get 4 = some (0, [.int .i64 0, .int .i64 0]) /\
    e.get 1 = some (.int .i64 turn) /\ e.get 2 = some (.lptr 2 0 0) /\ e.get 4 = some (.lptr 4 0 0) /\ e.get 5 = some (.int .i64 ↑k) /\ k <= (turn.tmod 4).toNat) ?_ ?_
   ·refine ⟨_, _, rfl, ?_, ?_, ?_, ?_, ?_, ?_, ?_⟩ <;> first | exact Z2 | (simp only [iter, w64]; (first | rw [if_pos (by simpa using hh)] | rw [if_neg (by simpa using hh)]); simp only [go_sem, *, Nat.reduceLT, Int.reduceEq, Int.reduceBEq, Int.reduceLE, Int.reduceLT, Nat.reduceAdd, Nat.reduceBEq, Nat.reduceEqDiff, reduceIte, Nat.reduceLeDiff, Nat.reduceMul, Nat.reduceSub, reduceCtorEq]) | simp
   rintro k F ⟨e, lm, rfl, hl2, hl4, h1, h2, h4, h5, hk⟩
   clear hh
   generalize hP : iter quarter k (if turn >= 4 then (⟨w64 (-x), y⟩ : Pt) else ⟨x, y⟩) = P at hl2
   have HP := Lib.hid hP
   clear hP
   by_cases hlt : k < (turn.tmod 4).toNat
   ·have hd : decide ((k : Int) < turn.tmod 4) = true := by simp; omega
    have hw : IntKind.i64.wrap (↑k + 1) = ↑(k + 1) := by
     have := Int.tmod_lt_of_pos turn (show (0 : Int) < 4 by decide)
     rw [wrap_small (by omega) (by omega)]; simp
    repeat' (first | refine goS ?_ | refine go2 (fun hh => ?_) (fun hh => ?_) | fail)
    refine ⟨hlt, _, _, rfl, ?_, ?_, ?_, ?_, ?_, ?_, by omega⟩
    ·have hq := HP.out
     simp only [iter]
     rw [hq]
     simp only [quarter, w64, go_sem, *, Nat.reduceLT, Int.reduceEq, Int.reduceBEq, Int.reduceLE, Int.reduceLT, Nat.reduceAdd, Nat.reduceBEq, Nat.reduceEqDiff, reduceIte, Nat.reduceLeDiff, Nat.reduceMul, Nat.reduceSub, reduceCtorEq]
    all_goals exact Z2
   ·have hd : decide ((k : Int) < turn.tmod 4) = false := by simp; omega
    repeat' (first | refine goS ?_ | refine go2 (fun hh => ?_) (fun hh => ?_) | fail)
    all_goals (simp only [resV_def (X := dX cA) Tryz.func81, Tryz.results81]; first | exact J5 | refine J6 ?_)
    have hkl : k = (turn.tmod 4).toNat := by omega
    have := HP.out
    rw [hkl] at this
    simp only [turnR, this]
    rfl
 ·cases h
theorem K81 {X : Ctx} (hX : X.intr 81 = some (pureFn sp81)) (p : Pt) (turn : Int) (h : Heap) : Cl X 81 [.agg [.int .i64 p.x, .int .i64 p.y], .int .i64 turn] h (.ret (.agg [.int .i64 (turnR p turn).x, .int .i64 (turnR p turn).y]) h none) := Cl.intr hX rfl
end Go.AM
namespace Go.AM
open Go Go.Proofs
variable [Keep]
attribute [local irreducible] W WO WO1 WD WQ WT thenQ blockQ endR isRet retK Cl ClR
noncomputable def cF : Itr
 | 93 => some (pureFn sp93)
 | 97 => some (pureFn sp97)
 | 28 => some (flatFn sp28)
 | 98 => some (pureFn sp98)
 | 53 => some (flatFn sp53)
 | 81 => some (pureFn sp81)
 | 252 => some (pureFn sp252)
 | 253 => some (pureFn sp253)
 | _ => none
theorem cF_sound : Sound (dX cF) := dX_sound (fun f g h => by
 unfold cF at h
 split at h
 ·cases h; exact F93
 ·cases h; exact F97
 ·cases h; exact F28
 ·cases h; exact F98
 ·cases h; exact F53
 ·cases h; exact F81
 ·cases h; exact F252
 ·cases h; exact F253
 ·cases h)
def sp29 : List AV -> Option AV
 | [a, b] => match slV ptC a, slV ptC b with
  | some l, some r => if l.length <= 32768 /\ r.length <= 32768 then some (.bool (decide (l = r))) else none
  | _, _ => none
 | _ => none
theorem flatL_inj : ∀ {l r : List Pt}, flatL l = flatL r -> l = r := by
 intro l
 induction l with
 | nil =>
  intro r h
  cases r with
  | nil => rfl
  | cons q r => simp [flatL] at h
 | cons p l ih =>
  intro r h
  cases r with
  | nil => simp [flatL] at h
  | cons q r =>
   simp only [flatL, List.flatMap_cons, List.cons_append, List.nil_append, List.cons.injEq] at h
   obtain ⟨h1, h2, h3⟩ := h
   rw [ih h3]
   cases p; cases q
   simp only at h1 h2
   rw [h1, h2]
theorem p29 : ∀ args v, sp29 args = some v -> v.flat = true := by
 intro args v h
 unfold sp29 at h
 split at h
 ·split at h
  ·split at h <;> cases h
   rfl
  ·cases h
 ·cases h
theorem F29 : IntrFn Tryz.prog 29 (flatFn sp29) := by
 refine flat_fn (X := dX cF) cF_sound p29 ?_
 intro args v h
 unfold sp29 at h
 split at h
 ·rename_i a b
  split at h
  ·rename_i l r hl hr
   split at h
   ·cases h
    rename_i hb
    have hout := sl_out hl
    have hout2 := sl_out hr
    have hf1 : slV intC (slN ((flatL l).map intC.enc)) = some (flatL l) := slV_slN (by rw [flatL_len]; unfold maxL; omega)
    have hf2 : slV intC (slN ((flatL r).map intC.enc)) = some (flatL r) := slV_slN (by rw [flatL_len]; unfold maxL; omega)
    have ho1 := sl_out hf1
    have ho2 := sl_out hf2
    have HL := Lib.hid hl
    have HR := Lib.hid hr
    have H1 := Lib.hid hf1
    have H2 := Lib.hid hf2
    clear hl hr hf1 hf2
    refine ClR.walk (c := _) rfl Tryz.func29 rfl (by kernel_rfl) rfl isRet_fail ?_
    simp only [entryEnv, Nat.reduceAdd]
    repeat' (first | refine goS ?_ | (apply U6; exact Z1; exact Z1; (focus (simp only [List.nil_append, List.append_nil]; first | exact K98 rfl _ _ (by first | exact HL.out | exact HR.out) _ | exact K53 rfl _ _ _ _ H1.out H2.out _)); simp only [pM, pN, rR, rP]) | refine go2 (fun hh => ?_) (fun hh => ?_) | fail)
    all_goals (simp only [resV_def (X := dX cF) Tryz.func29, Tryz.results29]; first | exact J5 | refine J6 ?_)
    have : (flatL l = flatL r) = (l = r) := propext ⟨flatL_inj, fun e => by rw [e]⟩
    simp only [this]
   ·cases h
  ·cases h
 ·cases h
def sp30 : List AV -> Option AV
 | [a, .int .i64 turn] => (slV ptC a).map fun l => slN ((l.map (turnR · turn)).map ptC.enc)
 | _ => none
theorem p30 : ∀ args v, sp30 args = some v -> v.pur = true := by
 intro args v h
 unfold sp30 at h
 split at h
 ·simp only [Option.map_eq_some_iff] at h; obtain ⟨l, _, rfl⟩ := h; exact slN_pur (enc_pur _ _)
 ·cases h
set_option maxHeartbeats 400000 in
theorem F30 : IntrFn Tryz.prog 30 (pureFn sp30) := by
 refine pure_fn (X := dX cF) cF_sound p30 ?_
 intro args v h
 unfold sp30 at h
 split at h
 ·rename_i a turn
  simp only [Option.map_eq_some_iff] at h
  obtain ⟨l, hl, rfl⟩ := h
  have hlen := sl_len hl
  have hout := sl_out hl
  have hmax := sl_max hl
  refine ClR.walk (c := _) rfl Tryz.func30 rfl (by kernel_rfl) rfl isRet_fail ?_
  simp only [entryEnv, Nat.reduceAdd]
  repeat' (first | refine goS ?_ | refine go2 (fun hh => ?_) (fun hh => ?_) | fail)
  refine W.loopN l.length (fun k F => ∃ e hp u, F = Fr.mk 30 false e .nil hp [] none /\ Blt hp u 2 (((l.take k).map (turnR · turn)).map ptC.enc) /\ e.get 0 = some a /\ e.get 1 = some (.int .i64 turn) /\ e.get 5 = some u /\ e.get 6 = some (.int .i64 ↑k) /\ k <= l.length) ?_ ?_
  ·refine ⟨_, _, _, rfl, Blt.nil, ?_, ?_, ?_, ?_, ?_⟩ <;> simp [go_sem, *]
  rintro k F ⟨e, hp0, u, rfl, hB, h0, h1, h5, h6, hk⟩
  have hbo := hB.out
  by_cases hlt : k < l.length
  ·obtain ⟨p, hp⟩ := get_some hlt
   have hix := pts_idx hl hp
   have hd : decide ((k : Int) < (l.length : Int)) = true := by simpa using hlt
   have hw := wrap_succ hlt hmax
   have hnx := take_next hp
   have hll : ((((l.take k).map (turnR · turn)).map ptC.enc)).length + 1 <= most := by
    simp only [List.length_map, List.length_take]
    unfold most; unfold maxL at hmax; omega
   clear hl hp
   repeat' (first | (apply WO1.append (t := 22) (u := 22) (e := 38) (e' := 38) (sz := 2) (tl := []); (focus assumption); exact Z1; exact rfl; (focus exact Z2); (focus exact Z2); (focus exact Z2); (focus (exact ty_row22)); exact Z1; (focus (intro v hv; simp at hv; rcases hv with rfl | rfl <;> rfl)); (focus (simp; simp at *; omega)); (focus (simp)); (intro v' h' hB' ho' hK'; simp only [pM, pN])) | refine go1 ?_ | (apply U6; exact Z1; exact Z1; (focus (simp only [List.nil_append, List.append_nil]; first | exact K81 rfl _ _ _)); simp only [pM, pN, rR, rP]) | refine go2 (fun hh => ?_) (fun hh => ?_) | fail)
   refine ⟨hlt, _, _, v', rfl, ?_, ?_, ?_, ?_, ?_, by omega⟩
   ·rw [hnx]; simpa [ptC] using hB'
   all_goals exact Z2
  ·have hd : decide ((k : Int) < (l.length : Int)) = false := by simpa using hlt
   have hkl : k = l.length := by omega
   subst hkl
   rw [List.take_length] at hB
   obtain ⟨h', hz, hz2, hz1⟩ := hB.freeze
   repeat' (first | refine goS ?_ | refine go2 (fun hh => ?_) (fun hh => ?_) | fail)
   all_goals (simp only [resV_def (X := dX cF) Tryz.func30, Tryz.results30]; first | exact J5 | refine J6 ?_)
 ·cases h
def ofV (n : Int) : AV := if n < 4 then .iface 217 (.int .i64 n) else .iface 215 (.int .i64 (w64 (n - 4)))
def sp96 : List AV -> Option AV
 | [.int .i64 n] => some (ofV n)
 | _ => none
theorem p96 : ∀ args v, sp96 args = some v -> v.pur = true := by
 intro args v h
 unfold sp96 at h
 split at h
 ·cases h; unfold ofV; split <;> rfl
 ·cases h
theorem F96 : IntrFn Tryz.prog 96 (pureFn sp96) := by
 refine pure_fn (X := dX cF) cF_sound p96 ?_
 intro args v h
 unfold sp96 at h
 split at h
 ·cases h
  rename_i n
  refine ClR.walk (c := _) rfl Tryz.func96 rfl (by kernel_rfl) rfl isRet_fail ?_
  simp only [entryEnv, Nat.reduceAdd]
  repeat' (first | refine goS ?_ | refine go2 (fun hh => ?_) (fun hh => ?_) | fail)
  all_goals (simp only [resV_def (X := dX cF) Tryz.func96, Tryz.results96]; first | exact J5 | refine J6 ?_)
  all_goals (unfold ofV w64; first | rw [if_pos (by simpa using hh)] | rw [if_neg (by simpa using hh)])
 ·cases h
theorem K96 {X : Ctx} (hX : X.intr 96 = some (pureFn sp96)) (n : Int) (h : Heap) : Cl X 96 [.int .i64 n] h (.ret (ofV n) h none) := Cl.intr hX rfl
def flipX (p : Pt) : Pt := ⟨w64 (-p.x), p.y⟩
def turnedV (t : TypeId) (n : Int) (p : Pt) : Option Pt := if n <= 65536 then (if t = 217 then some (iter quarter n.toNat p) else if t = 215 then some (iter quarter n.toNat (flipX p)) else none) else none
def sp95 : List AV -> Option AV
 | [.iface t (.int .i64 n), .agg [.int .i64 x, .int .i64 y]] => (turnedV t n ⟨x, y⟩).map ptC.enc
 | _ => none
theorem p95 : ∀ args v, sp95 args = some v -> v.pur = true := by
 intro args v h
 unfold sp95 at h
 split at h
 ·simp only [Option.map_eq_some_iff] at h; obtain ⟨l, _, rfl⟩ := h; rfl
 ·cases h
theorem m217 : methodOf Tryz.prog 217 "nacre/drill.quarters" = some 253 := by kernel_rfl
theorem m215 : methodOf Tryz.prog 215 "nacre/drill.quarters" = some 252 := by kernel_rfl
end Go.AM
namespace Go.AM
open Go Go.Proofs
variable [Keep]
attribute [local irreducible] W WO WO1 WD WQ WT thenQ blockQ endR isRet retK Cl ClR
set_option maxHeartbeats 400000 in
theorem F95 : IntrFn Tryz.prog 95 (pureFn sp95) := by
 refine pure_fn (X := dX cF) cF_sound p95 ?_
 intro args v h
 unfold sp95 at h
 split at h
 ·rename_i t n x y
  simp only [Option.map_eq_some_iff] at h
  obtain ⟨q, hq, rfl⟩ := h
  unfold turnedV at hq
  split at hq
  ·rename_i hn
   have main : ∀ p1 : Pt, q = iter quarter n.toNat p1 -> ∀ (F : Fr) (Q : Out -> Prop), True := fun _ _ _ _ => trivial
   obtain ⟨t', ht', p1, hq1, hp1⟩ : ∃ t' : TypeId, t = t' /\ ∃ p1 : Pt, q = iter quarter n.toNat p1 /\ (t' = 217 /\ p1 = ⟨x, y⟩ \/ t' = 215 /\ p1 = flipX ⟨x, y⟩) := by
    split at hq
    ·rename_i e; cases hq; exact ⟨217, e, _, rfl, .inl ⟨rfl, rfl⟩⟩
    ·split at hq
     ·rename_i e; cases hq; exact ⟨215, e, _, rfl, .inr ⟨rfl, rfl⟩⟩
     ·cases hq
   subst ht'
   clear hq main
   have HQ := Lib.hid hq1
   clear hq1
   refine ClR.walk (c := _) rfl Tryz.func95 rfl (by kernel_rfl) rfl isRet_fail ?_
   simp only [entryEnv, Nat.reduceAdd]
   rcases hp1 with ⟨rfl, hp⟩ | ⟨rfl, hp⟩
   all_goals
    have HP := Lib.hid hp
    clear hp
    repeat' (first | (apply WO1.invoke; exact Z1; exact Z1; (focus (first | exact m217 | exact m215)); (focus (first | exact K253 rfl _ _ | exact K252 rfl _ _)); simp only [pM, pN, rR, rP]) | refine go1 ?_ | refine go2 (fun hh => ?_) (fun hh => ?_) | fail)
    refine W.loopN n.toNat (fun k F => ∃ e lm, F = Fr.mk 95 false e lm emptyHp [] none /\ lm.get 3 = some (0, [.int .i64 (iter quarter k p1).x, .int .i64 (iter quarter k p1).y]) /\ lm.get 4 = some (0, [.int .i64 0, .int .i64 0]) /\
     e.get 3 = some (.lptr 3 0 0) /\ e.get 4 = some (.lptr 4 0 0) /\ e.get 14 = some (.int .i64 n) /\ e.get 15 = some (.int .i64 ↑k) /\ k <= n.toNat) ?_ ?_
    ·refine ⟨_, _, rfl, ?_, ?_, ?_, ?_, ?_, ?_, ?_⟩ <;> first | exact Z2 | (simp [go_sem, *]; done) | (have hp := HP.out; simp only [iter, hp, flipX, w64, go_sem, *, Nat.reduceLT, Int.reduceEq, Int.reduceBEq, Int.reduceLE, Int.reduceLT, Nat.reduceAdd, Nat.reduceBEq, Nat.reduceEqDiff, reduceIte, Nat.reduceLeDiff, Nat.reduceMul, Nat.reduceSub, reduceCtorEq])
    rintro k F ⟨e, lm, rfl, hl3, hl4, h3, h4, h14, h15, hk⟩
    generalize hPP : iter quarter k p1 = P at hl3
    have HPP := Lib.hid hPP
    clear hPP
    by_cases hlt : k < n.toNat
    ·have hd : decide ((k : Int) < n) = true := by simp; omega
     have hw : IntKind.i64.wrap (↑k + 1) = ↑(k + 1) := by
      rw [wrap_small (by omega) (by omega)]; simp
     repeat' (first | refine goS ?_ | refine go2 (fun hh => ?_) (fun hh => ?_) | fail)
     refine ⟨hlt, _, _, rfl, ?_, ?_, ?_, ?_, ?_, ?_, by omega⟩
     ·have hq := HPP.out
      simp only [iter]
      rw [hq]
      simp only [quarter, w64, go_sem, *, Nat.reduceLT, Int.reduceEq, Int.reduceBEq, Int.reduceLE, Int.reduceLT, Nat.reduceAdd, Nat.reduceBEq, Nat.reduceEqDiff, reduceIte, Nat.reduceLeDiff, Nat.reduceMul, Nat.reduceSub, reduceCtorEq]
     all_goals exact Z2
    ·have hd : decide ((k : Int) < n) = false := by simp; omega
     repeat' (first | refine goS ?_ | refine go2 (fun hh => ?_) (fun hh => ?_) | fail)
     all_goals (simp only [resV_def (X := dX cF) Tryz.func95, Tryz.results95]; first | exact J5 | refine J6 ?_)
     have hkl : k = n.toNat := by omega
     have := HPP.out
     rw [hkl] at this
     rw [HQ.out, this]
     rfl
  ·cases hq
 ·cases h
theorem K95 {X : Ctx} (hX : X.intr 95 = some (pureFn sp95)) (t : TypeId) (n : Int) (p q : Pt) (hq : turnedV t n p = some q) (h : Heap) : Cl X 95 [.iface t (.int .i64 n), .agg [.int .i64 p.x, .int .i64 p.y]] h (.ret (.agg [.int .i64 q.x, .int .i64 q.y]) h none) :=
 Cl.intr hX (by simp [pureFn, AV.purL, AV.pur, sp95, hq, ptC])
def sp149 : List AV -> Option AV
 | [.agg [.int .i64 x, .int .i64 y], .int .i64 far] => some (.bool (okPt far ⟨x, y⟩))
 | _ => none
theorem p149 : ∀ args v, sp149 args = some v -> v.flat = true := by
 intro args v h
 unfold sp149 at h
 split at h
 ·cases h; rfl
 ·cases h
theorem F149 : IntrFn Tryz.prog 149 (pureFn sp149) := by
 refine pure_fn (X := dX cF) cF_sound (fun a v h => by have := p149 a v h; cases v <;> first | rfl | (simp [AV.flat] at this; done) | (unfold sp149 at h; split at h <;> cases h)) ?_
 intro args v h
 unfold sp149 at h
 split at h
 ·cases h
  rename_i x y far
  refine ClR.walk (c := _) rfl Tryz.func149 rfl (by kernel_rfl) rfl isRet_fail ?_
  simp only [entryEnv, Nat.reduceAdd]
  repeat' (first | refine goS ?_ | (apply U6; exact Z1; exact Z1; (focus (simp only [List.nil_append, List.append_nil]; first | exact K93 rfl _ _ _ _)); simp only [pM, pN, rR, rP]) | refine go2 (fun hh => ?_) (fun hh => ?_) | fail)
  all_goals (simp only [resV_def (X := dX cF) Tryz.func149, Tryz.results149]; first | exact J5 | refine J6 ?_)
  all_goals simp [okPt, w64, *]
 ·cases h
theorem K149 {X : Ctx} (hX : X.intr 149 = some (pureFn sp149)) (p : Pt) (far : Int) (h : Heap) : Cl X 149 [.agg [.int .i64 p.x, .int .i64 p.y], .int .i64 far] h (.ret (.bool (okPt far p)) h none) := Cl.intr hX rfl
def isR (r0 : COut) (r : COut) : Prop := r = r0
theorem ClR.cl {X : Ctx} {f : FuncId} {args : List AV} {h : Heap} {r : COut} (q : ClR X f args h (isR r)) : Cl X f args h r := by
 unfold ClR at q
 obtain ⟨r', h1, h2⟩ := q
 rw [show r' = r from h2] at h1
 exact h1
def idxOf {α : Type} (pb : α -> Bool) (l : List α) : Int := match l.findIdx? pb with | some i => i | none => -1
theorem idxOf_at {α : Type} {pb : α -> Bool} {l : List α} {k : Nat} {p : α} (h1 : (l.take k).all (fun x => !pb x) = true) (hp : l[k]? = some p) (h2 : pb p = true) : idxOf pb l = k := by
 have hk : k < l.length := by
  rcases Nat.lt_or_ge k l.length with h' | h'
  ·exact h'
  ·rw [List.getElem?_eq_none h'] at hp; cases hp
 have : l.findIdx? pb = some k := by
  rw [List.findIdx?_eq_some_iff_getElem]
  refine ⟨hk, ?_, fun j hj => ?_⟩
  ·rw [List.getElem?_eq_getElem hk] at hp
   rw [Option.some.inj hp]; exact h2
  ·have := List.all_eq_true.1 h1 l[j] (by rw [List.mem_take_iff_getElem]; exact ⟨j, by omega, rfl⟩)
   simpa using this
 simp [idxOf, this]
theorem idxOf_none {α : Type} {pb : α -> Bool} {l : List α} (h1 : l.all (fun x => !pb x) = true) : idxOf pb l = -1 := by
 have : l.findIdx? pb = none := by
  rw [List.findIdx?_eq_none_iff]
  intro x hx
  have := List.all_eq_true.1 h1 x hx
  simpa using this
 simp [idxOf, this]
theorem idxOf_any {α : Type} (pb : α -> Bool) (l : List α) : decide (idxOf pb l >= 0) = l.any pb := by
 unfold idxOf
 cases h : l.findIdx? pb with
 | none =>
  rw [List.findIdx?_eq_none_iff] at h
  have : l.any pb = false := by
   rw [List.any_eq_false]
   intro x hx
   simp [h x hx]
  rw [this]
  simp
 | some i =>
  rw [List.findIdx?_eq_some_iff_getElem] at h
  obtain ⟨hi, h1, _⟩ := h
  have : l.any pb = true := List.any_eq_true.2 ⟨l[i], List.getElem_mem hi, h1⟩
  rw [this]
  simp
set_option maxHeartbeats 400000 in
theorem C187 (c : Itr) (hc : c 187 = none) (a : AV) (l : List Pt) (ha : slV ptC a = some l) (g : FuncId) (first capt : List AV) (pb : Pt -> Bool) (h : Heap)
    (hcall : ∀ p : Pt, p ∈ l -> Cl (dX c) g ((first ++ [ptC.enc p]) ++ capt) h (.ret (.bool (pb p)) h none)) : Cl (dX c) 187 [a, .func (.func g) first capt] h (.ret (.int .i64 (idxOf pb l)) h none) := by
  refine ClR.cl ?_
  have hlen := sl_len ha
  have hout := sl_out ha
  have hmax := sl_max ha
  refine ClR.walk (c := _) hc Tryz.func187 rfl (by kernel_rfl) rfl (fun e => by cases e) ?_
  simp only [entryEnv, Nat.reduceAdd]
  repeat' (first | refine goS ?_ | refine go2 (fun hh => ?_) (fun hh => ?_) | fail)
  refine W.loopN l.length (fun k F => ∃ e, F = Fr.mk 187 false e .nil h [] none /\ (l.take k).all (fun x => !pb x) = true /\ e.get 0 = some a /\ e.get 1 = some (.func (.func g) first capt) /\ e.get 7 = some (.int .i64 ↑l.length) /\ e.get 8 = some (.int .i64 ↑k) /\ k <= l.length) ?_ ?_
  · refine ⟨_, rfl, ?_, ?_, ?_, ?_, ?_, ?_⟩ <;> simp [go_sem, *]
  rintro k F ⟨e, rfl, hall, h0, h1, h7, h8, hk⟩
  have HA := Lib.hid hall
  clear hall
  by_cases hlt : k < l.length
  · obtain ⟨p, hp⟩ := get_some hlt
    have hix := pts_idx ha hp
    have hcl := hcall p (List.mem_of_getElem? hp)
    have hd : decide ((k : Int) < (l.length : Int)) = true := by simpa using hlt
    have hw := wrap_succ hlt hmax
    have hnx := take_next hp
    have HI : pb p = true -> idxOf pb l = k := idxOf_at HA.out hp
    have HH := Lib.hid HI
    clear ha hcall hp HI
    repeat' (first | (apply U6; exact Z1; exact Z1; (focus (exact hcl)); simp only [pM, pN, rR, rP]) | refine go1 ?_ | refine go2 (fun hh => ?_) (fun hh => ?_) | fail)
    all_goals first
      | (refine ⟨hlt, _, rfl, ?_, ?_, ?_, ?_, ?_, by omega⟩
         · have := HA.out
           rw [hnx]; simp_all
         all_goals exact Z2)
      | ((simp only [resV_def (X := dX c) Tryz.func187, Tryz.results187]; first | exact J5 | refine J6 ?_)
         have := HH.out hh
         simp [isR, frzRes, dX_frz, dFrz, this])
  · have hd : decide ((k : Int) < (l.length : Int)) = false := by simpa using hlt
    have hkl : k = l.length := by omega
    have h2 := HA.out
    rw [hkl, List.take_length] at h2
    have HI := Lib.hid (idxOf_none h2)
    clear ha hcall h2 hkl
    repeat' (first | refine goS ?_ | refine go2 (fun hh => ?_) (fun hh => ?_) | fail)
    all_goals (simp only [resV_def (X := dX c) Tryz.func187, Tryz.results187]; first | exact J5 | refine J6 ?_)
    have := HI.out
    simp [isR, frzRes, dX_frz, dFrz, this]
theorem C147 (c : Itr) (hc : c 187 = none) (hc2 : c 147 = none) (a : AV) (l : List Pt) (ha : slV ptC a = some l) (g : FuncId) (first capt : List AV) (pb : Pt -> Bool) (h : Heap)
  (hcall : ∀ p : Pt, p ∈ l -> Cl (dX c) g ((first ++ [ptC.enc p]) ++ capt) h (.ret (.bool (pb p)) h none)) : Cl (dX c) 147 [a, .func (.func g) first capt] h (.ret (.bool (l.any pb)) h none) := by
 refine ClR.cl ?_
 have hcl := C187 c hc a l ha g first capt pb h hcall
 have hout := sl_out ha
 have hb := idxOf_any pb l
 clear ha hcall
 refine ClR.walk (c := _) hc2 Tryz.func147 rfl (by kernel_rfl) rfl (fun e => by cases e) ?_
 simp only [entryEnv, Nat.reduceAdd]
 repeat' (first | (apply U6; exact Z1; exact Z1; (focus (exact hcl)); simp only [pM, pN, rR, rP]) | refine go1 ?_ | refine go2 (fun hh => ?_) (fun hh => ?_) | fail)
 all_goals (simp only [resV_def (X := dX c) Tryz.func147, Tryz.results147]; first | exact J5 | refine J6 ?_)
 simp [isR, frzRes, dX_frz, dFrz, hb]
end Go.AM
namespace Go.AM
open Go Go.Proofs
variable [Keep]
attribute [local irreducible] W WO WO1 WD WQ WT thenQ blockQ endR isRet retK Cl ClR
noncomputable def cH : Itr
 | 93 => some (pureFn sp93)
 | 95 => some (pureFn sp95)
 | 96 => some (pureFn sp96)
 | 149 => some (pureFn sp149)
 | _ => none
theorem cH_sound : Sound (dX cH) := dX_sound (fun f g h => by
 unfold cH at h
 split at h
 ·cases h; exact F93
 ·cases h; exact F95
 ·cases h; exact F96
 ·cases h; exact F149
 ·cases h)
def allB (l : List Pt) (least far : Int) : Bool := inB l.length least 4 && !l.any fun p => !okPt far p
def sp94 : List AV -> Option AV
 | [a, .int .i64 least, .int .i64 far] => (slV ptC a).map fun l => .bool (allB l least far)
 | _ => none
theorem p94 : ∀ args v, sp94 args = some v -> v.flat = true := by
 intro args v h
 unfold sp94 at h
 split at h
 ·simp only [Option.map_eq_some_iff] at h; obtain ⟨l, _, rfl⟩ := h; rfl
 ·cases h
theorem C148 (far : Int) (p : Pt) (id : Nat) (hp : Heap) (hg : hp.get id = some (.var [.int .i64 far])) : Cl (dX cH) 148 ([] ++ [ptC.enc p] ++ [.ptr id 0]) hp (.ret (.bool (!okPt far p)) hp none) := by
 refine ClR.cl ?_
 refine ClR.walk (c := _) rfl Tryz.func148 rfl (by kernel_rfl) rfl (fun e => by cases e) ?_
 simp only [List.nil_append, List.cons_append, ptC, entryEnv, Nat.reduceAdd]
 repeat' (first | refine goS ?_ | (apply U6; exact Z1; exact Z1; (focus (simp only [List.nil_append, List.append_nil]; first | exact K149 rfl _ _ _)); simp only [pM, pN, rR, rP]) | refine go2 (fun hh => ?_) (fun hh => ?_) | fail)
 all_goals (simp only [resV_def (X := dX cH) Tryz.func148, Tryz.results148]; first | exact J5 | refine J6 ?_)
 simp [isR]
theorem F94 : IntrFn Tryz.prog 94 (flatFn sp94) := by
 refine flat_fn (X := dX cH) cH_sound p94 ?_
 intro args v h
 unfold sp94 at h
 split at h
 ·rename_i a least far
  simp only [Option.map_eq_some_iff] at h
  obtain ⟨l, hl, rfl⟩ := h
  have hlen := sl_len hl
  have hout := sl_out hl
  have hcon : ∀ (n : Nat) (m : Mp Blk) (id : Nat), (Heap.mk n m).get id = some (.var [.int .i64 far]) -> Cl (dX cH) 147 [a, .func (.func 148) [] [.ptr id 0]] (Heap.mk n m) (.ret (.bool (l.any fun p => !okPt far p)) (Heap.mk n m) none) :=
   fun n m id hg => C147 cH rfl rfl a l hl 148 [] [.ptr id 0] (fun p => !okPt far p) _ (fun p _ => C148 far p id _ hg)
  have HC := Lib.hid hcon
  clear hl hcon
  refine ClR.walk (c := _) rfl Tryz.func94 rfl (by kernel_rfl) rfl isRet_fail ?_
  simp only [entryEnv, Nat.reduceAdd, emptyHp]
  repeat' (first | refine goS ?_ | (apply U6; exact Z1; exact Z1; (focus (simp only [List.nil_append, List.append_nil]; first | exact K93 rfl _ _ _ _ | exact HC.out _ _ _ (by simp only [go_sem, *, Nat.reduceLT, Int.reduceEq, Int.reduceBEq, Int.reduceLE, Int.reduceLT, Nat.reduceAdd, Nat.reduceBEq, Nat.reduceEqDiff, reduceIte, Nat.reduceLeDiff, Nat.reduceMul, Nat.reduceSub, reduceCtorEq]))); simp only [pM, pN, rR, rP]) | refine go2 (fun hh => ?_) (fun hh => ?_) | fail)
  all_goals (simp only [resV_def (X := dX cH) Tryz.func94, Tryz.results94]; first | exact J5 | refine J6 ?_)
  all_goals simp [allB, *]
 ·cases h
theorem K94 {X : Ctx} (hX : X.intr 94 = some (flatFn sp94)) (a : AV) (l : List Pt) (least far : Int) (ha : slV ptC a = some l) (h : Heap) : Cl X 94 [a, .int .i64 least, .int .i64 far] h (.ret (.bool (allB l least far)) h none) :=
 Cl.intr hX (by simp [flatFn, viewVs, view_pur (sl_pur ha), view_pur (a := .int .i64 least) rfl, view_pur (a := .int .i64 far) rfl, sp94, ha])
end Go.AM
namespace Go.AM
open Go Go.Proofs
variable [Keep]
attribute [local irreducible] W WO WO1 WD WQ WT thenQ blockQ endR isRet retK Cl ClR
noncomputable def cI : Itr
 | 93 => some (pureFn sp93)
 | 94 => some (flatFn sp94)
 | 95 => some (pureFn sp95)
 | 96 => some (pureFn sp96)
 | 97 => some (pureFn sp97)
 | _ => none
theorem cI_sound : Sound (dX cI) := dX_sound (fun f g h => by
 unfold cI at h
 split at h
 ·cases h; exact F93
 ·cases h; exact F94
 ·cases h; exact F95
 ·cases h; exact F96
 ·cases h; exact F97
 ·cases h)
def sp27 : List AV -> Option AV
 | [.int .i64 n] => some (.bool (inB n 0 7))
 | _ => none
theorem F27 : IntrFn Tryz.prog 27 (pureFn sp27) := by
 refine pure_fn (X := dX cI) cI_sound (fun a v h => by unfold sp27 at h; split at h <;> cases h; rfl) ?_
 intro args v h
 unfold sp27 at h
 split at h
 ·cases h
  refine ClR.walk (c := _) rfl Tryz.func27 rfl (by kernel_rfl) rfl isRet_fail ?_
  simp only [entryEnv, Nat.reduceAdd]
  repeat' (first | refine goS ?_ | (apply U6; exact Z1; exact Z1; (focus (simp only [List.nil_append, List.append_nil]; first | exact K97 rfl _ _ _ _)); simp only [pM, pN, rR, rP]) | refine go2 (fun hh => ?_) (fun hh => ?_) | fail)
  all_goals (simp only [resV_def (X := dX cI) Tryz.func27, Tryz.results27]; first | exact J5 | refine J6 ?_)
 ·cases h
def turnP (turn : Int) (p : Pt) : Pt := if turn < 4 then iter quarter turn.toNat p else iter quarter (w64 (turn - 4)).toNat (flipX p)
def turnF (l : List Pt) (turn : Int) : AV := if inB turn 0 7 && allB l 0 80 then .tuple [slN ((l.map (turnP turn)).map ptC.enc), .int .i64 0] else .tuple [.nilslice, .int .i64 2]
def sp26 : List AV -> Option AV
 | [a, .int .i64 turn] => (slV ptC a).map fun l => turnF l turn
 | _ => none
theorem p26 : ∀ args v, sp26 args = some v -> v.pur = true := by
 intro args v h
 unfold sp26 at h
 split at h
 ·simp only [Option.map_eq_some_iff] at h; obtain ⟨l, _, rfl⟩ := h
  unfold turnF
  split
  ·simp only [AV.pur, AV.purL, Bool.and_true]; exact slN_pur (enc_pur ptC _)
  ·rfl
 ·cases h
theorem of_turned {turn : Int} (h : inB turn 0 7 = true) (p : Pt) : ∃ t n, ofV turn = .iface t (.int .i64 n) /\ turnedV t n p = some (turnP turn p) := by
 simp only [inB, Bool.and_eq_true, decide_eq_true_eq] at h
 by_cases h4 : turn < 4
 ·refine ⟨217, turn, by simp [ofV, h4], ?_⟩
  unfold turnedV turnP
  rw [if_pos (by omega), if_pos rfl, if_pos h4]
 ·have hw : w64 (turn - 4) = turn - 4 := wrap_small (by omega) (by omega)
  refine ⟨215, turn - 4, by simp [ofV, h4, hw], ?_⟩
  unfold turnedV turnP
  rw [if_pos (by omega), if_neg (by decide), if_pos rfl, if_neg h4, hw]
set_option maxHeartbeats 400000 in
theorem F26 : IntrFn Tryz.prog 26 (pureFn sp26) := by
 refine pure_fn (X := dX cI) cI_sound p26 ?_
 intro args v h
 unfold sp26 at h
 split at h
 ·rename_i a turn
  simp only [Option.map_eq_some_iff] at h
  obtain ⟨l, hl, rfl⟩ := h
  have hlen := sl_len hl
  have hout := sl_out hl
  have hmax := sl_max hl
  have HL := Lib.hid hl
  have HF := Lib.hid (show turnF l turn = turnF l turn from rfl)
  clear hl
  refine ClR.walk (c := _) rfl Tryz.func26 rfl (by kernel_rfl) rfl isRet_fail ?_
  simp only [entryEnv, Nat.reduceAdd]
  by_cases hin : inB turn 0 7 = true
  ·by_cases hal : allB l 0 80 = true
   ·have hres : turnF l turn = .tuple [slN ((l.map (turnP turn)).map ptC.enc), .int .i64 0] := by simp [turnF, hin, hal]
    rw [hres]
    repeat' (first | refine goS ?_ | (apply U6; exact Z1; exact Z1; (focus (simp only [List.nil_append, List.append_nil]; first | exact K93 rfl _ _ _ _ | exact K94 rfl _ _ _ _ HL.out _)); simp only [pM, pN, rR, rP]) | refine go2 (fun hh => ?_) (fun hh => ?_) | fail)
    refine W.loopN l.length (fun k F => ∃ e lm hp u, F = Fr.mk 26 false e lm hp [] none /\ Blt hp u 2 (((l.take k).map (turnP turn)).map ptC.enc) /\ e.get 0 = some a /\ e.get 1 = some (.int .i64 turn) /\ e.get 6 = some u /\ e.get 17 = some a /\ e.get 18 = some (.int .i64 ↑l.length) /\ e.get 19 = some (.int .i64 ↑k) /\ k <= l.length) ?_ ?_
    ·refine ⟨_, _, _, _, rfl, Blt.nil, ?_, ?_, ?_, ?_, ?_, ?_, ?_⟩ <;> simp [go_sem, *]
    rintro k F ⟨e, lm, hp0, u, rfl, hB, h0, h1, h6, h17, h18, h19, hk⟩
    have hbo := hB.out
    by_cases hlt : k < l.length
    ·obtain ⟨p, hp⟩ := get_some hlt
     have hix := pts_idx HL.out hp
     have hd : decide ((k : Int) < (l.length : Int)) = true := by simpa using hlt
     have hw := wrap_succ hlt hmax
     have hnx := take_next hp
     have hll : ((((l.take k).map (turnP turn)).map ptC.enc)).length + 1 <= most := by
      simp only [List.length_map, List.length_take]
      unfold most; unfold maxL at hmax; omega
     obtain ⟨t, n, ho, HT⟩ := of_turned hin p
     clear hp hin hal hres
     repeat' (first | (apply WO1.append (t := 22) (u := 22) (e := 38) (e' := 38) (sz := 2) (tl := []); (focus assumption); exact Z1; exact rfl; (focus exact Z2); (focus exact Z2); (focus exact Z2); (focus (exact ty_row22)); exact Z1; (focus (intro v hv; simp at hv; rcases hv with rfl | rfl <;> rfl)); (focus (simp; simp at *; omega)); (focus (simp)); (intro v' h' hB' ho' hK'; simp only [pM, pN])) | (apply W.drawQ (id := 7) (l1 := [0, 1, 2, 3, 4, 5]) (l2 := [6, 7]); kernel_rfl; kernel_rfl; kernel_rfl; exact Z4) | refine go1 ?_ | (apply U6; exact Z1; exact Z1; (focus (simp only [List.nil_append, List.append_nil]; first | exact K96 rfl _ _ | exact K95 rfl _ _ _ _ HT _)); simp only [pM, pN, rR, rP]) | refine go2 (fun hh => ?_) (fun hh => ?_) | fail)
     refine ⟨hlt, _, _, _, v', rfl, ?_, ?_, ?_, ?_, ?_, ?_, ?_, by omega⟩
     ·rw [hnx]; simpa [ptC] using hB'
     all_goals exact Z2
    ·have hd : decide ((k : Int) < (l.length : Int)) = false := by simpa using hlt
     have hkl : k = l.length := by omega
     subst hkl
     rw [List.take_length] at hB
     obtain ⟨h', hz, hz2, hz1⟩ := hB.freeze
     clear hres
     repeat' (first | refine goS ?_ | refine go2 (fun hh => ?_) (fun hh => ?_) | fail)
     all_goals (simp only [resV_def (X := dX cI) Tryz.func26, Tryz.results26]; first | exact J5 | refine J6 ?_)
   ·have hal : allB l 0 80 = false := by simpa using hal
    have hres : turnF l turn = .tuple [.nilslice, .int .i64 2] := by simp [turnF, hal]
    rw [hres]
    clear hres
    repeat' (first | refine goS ?_ | (apply U6; exact Z1; exact Z1; (focus (simp only [List.nil_append, List.append_nil]; first | exact K93 rfl _ _ _ _ | exact K94 rfl _ _ _ _ HL.out _)); simp only [pM, pN, rR, rP]) | refine go2 (fun hh => ?_) (fun hh => ?_) | fail)
    all_goals (simp only [resV_def (X := dX cI) Tryz.func26, Tryz.results26]; first | exact J5 | refine J6 ?_)
  ·have hin : inB turn 0 7 = false := by simpa using hin
   have hres : turnF l turn = .tuple [.nilslice, .int .i64 2] := by simp [turnF, hin]
   rw [hres]
   clear hres
   repeat' (first | refine goS ?_ | (apply U6; exact Z1; exact Z1; (focus (simp only [List.nil_append, List.append_nil]; first | exact K93 rfl _ _ _ _ | exact K94 rfl _ _ _ _ HL.out _)); simp only [pM, pN, rR, rP]) | refine go2 (fun hh => ?_) (fun hh => ?_) | fail)
   all_goals (simp only [resV_def (X := dX cI) Tryz.func26, Tryz.results26]; first | exact J5 | refine J6 ?_)
 ·cases h
theorem K26 {X : Ctx} (hX : X.intr 26 = some (pureFn sp26)) (a : AV) (l : List Pt) (turn : Int) (ha : slV ptC a = some l) (h : Heap) : Cl X 26 [a, .int .i64 turn] h (.ret (turnF l turn) h none) :=
 Cl.intr hX (by simp [pureFn, AV.purL, AV.pur, sl_pur ha, sp26, ha])
end Go.AM
