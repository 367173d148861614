/-
  A part of the proof: contracts of functions.
-/
import Derived.Test.YtkpbdjpekjdhcaaGreatDoorXAF
import Derived.Test.YtkpbdjpekjdhcaaGreatDoorXAE
import Derived.Test.YtkpbdjpekjdhcaaGreatDoorXAD
import Derived.Shelf.LaysM
import Derived.Shelf.Strings.Count
import Derived.Shelf.Strings.Search2
import Derived.Test.YtkpbdjpekjdhcaaGreatDoorProg
set_option linter.unusedSectionVars false
set_option linter.unusedVariables false
set_option linter.unusedSimpArgs false
set_option maxRecDepth 100000
namespace Go.AM
open Go Go.Proofs
variable [Keep]
attribute [local irreducible] W WO WO1 WD WQ WT thenQ blockQ endR isRet retK Cl ClR
def andI (a b : Int) : Int := IntKind.i64.wrap ((BitVec.ofInt 64 a &&& BitVec.ofInt 64 b).toNat)
def andU (a b : Int) : Int := IntKind.u64.wrap ((BitVec.ofInt 64 a &&& BitVec.ofInt 64 b).toNat)
theorem intOp_andI (a b : Int) : intOp .and .i64 a b = some (.int .i64 (andI a b)) := rfl
theorem intOp_andU (a b : Int) : intOp .and .u64 a b = some (.int .u64 (andU a b)) := rfl
def shrI (a b : Int) : Int := a.fdiv (2 ^ min b.toNat 64)
theorem intOp_shrI {a b : Int} (h : 0 <= b) : intOp .shr .i64 a b = some (.int .i64 (shrI a b)) := intOp_shr_nn _ _ _ h
theorem intOp_shrU {a b : Int} (h : 0 <= b) : intOp .shr .u64 a b = some (.int .u64 (shrI a b)) := intOp_shr_nn _ _ _ h
def hasB (s r : Int) : Bool := andI (shrI s r) 1 == 1
def sp89 : List AV -> Option AV
 | [.int .i64 s, .int .i64 r] => if 0 <= r then some (.bool (hasB s r)) else none
 | _ => none
theorem p89 : ∀ args v, sp89 args = some v -> v.pur = true := by
 intro args v h
 unfold sp89 at h
 split at h
 ·split at h <;> cases h; rfl
 ·cases h
theorem F89 : IntrFn Tryz.prog 89 (pureFn sp89) := by
 refine pure_fn (X := dX i0) i0_sound p89 ?_
 intro args v h
 unfold sp89 at h
 split at h
 ·rename_i s r
  split at h
  ·rename_i hr
   cases h
   have hs := intOp_shrI (a := s) hr
   have ha := intOp_andI (shrI s r) 1
   have HH := J1 hr
   clear hr
   refine ClR.walk (c := _) rfl Tryz.func89 rfl (by kernel_rfl) rfl isRet_fail ?_
   simp only [entryEnv, Nat.reduceAdd]
   repeat' (first | refine goS ?_ | (refine go2 ?_ ?_ <;> intro hh) | fail)
   all_goals (simp only [resV_def (X := dX i0) Tryz.func89, Tryz.results89]; first | exact J5 | refine J6 ?_)
   all_goals rfl
  ·cases h
 ·cases h
theorem K89 {X : Ctx} (hX : X.intr 89 = some (pureFn sp89)) (s r : Int) (hr : 0 <= r) (h : Heap) : Cl X 89 [.int .i64 s, .int .i64 r] h (.ret (.bool (hasB s r)) h none) := Cl.intr hX (by simp [pureFn, AV.purL, AV.pur, sp89, hr])
def addU (a b : Int) : Int := IntKind.u64.wrap (a + b)
def ocA (x : Int) : Int := addU (andU (shrI x 1) 6148914691236517205) (andU x 6148914691236517205)
def ocB (x : Int) : Int := addU (andU (shrI x 2) 3689348814741910323) (andU x 3689348814741910323)
def ocC (x : Int) : Int := andU (addU (shrI x 4) x) 1085102592571150095
def ocD (x : Int) : Int := addU x (shrI x 8)
def ocE (x : Int) : Int := addU x (shrI x 16)
def ocG (x : Int) : Int := addU x (shrI x 32)
def ocF (x : Int) : Int := andI (IntKind.i64.wrap (ocG (ocE (ocD (ocC (ocB (ocA x))))))) 127
def sp143 : List AV -> Option AV
 | [.int .u64 x] => some (.int .i64 (ocF x))
 | _ => none
theorem p143 : ∀ args v, sp143 args = some v -> v.pur = true := by
 intro args v h
 unfold sp143 at h
 split at h <;> cases h; rfl
theorem F143 : IntrFn Tryz.prog 143 (pureFn sp143) := by
 refine pure_fn (X := dX i0) i0_sound p143 ?_
 intro args v h
 unfold sp143 at h
 split at h
 ·rename_i x
  cases h
  have s1 : ∀ a, intOp .shr .u64 a 1 = some (.int .u64 (shrI a 1)) := fun a => intOp_shrU (by decide)
  have s2 : ∀ a, intOp .shr .u64 a 2 = some (.int .u64 (shrI a 2)) := fun a => intOp_shrU (by decide)
  have s4 : ∀ a, intOp .shr .u64 a 4 = some (.int .u64 (shrI a 4)) := fun a => intOp_shrU (by decide)
  have s8 : ∀ a, intOp .shr .u64 a 8 = some (.int .u64 (shrI a 8)) := fun a => intOp_shrU (by decide)
  have s16 : ∀ a, intOp .shr .u64 a 16 = some (.int .u64 (shrI a 16)) := fun a => intOp_shrU (by decide)
  have s32 : ∀ a, intOp .shr .u64 a 32 = some (.int .u64 (shrI a 32)) := fun a => intOp_shrU (by decide)
  have a1 := intOp_andU
  have a2 := intOp_andI
  refine ClR.walk (c := _) rfl Tryz.func143 rfl (by kernel_rfl) rfl isRet_fail ?_
  simp only [entryEnv, Nat.reduceAdd]
  repeat' (first | refine goS ?_ | (refine go2 ?_ ?_ <;> intro hh) | fail)
  all_goals (simp only [resV_def (X := dX i0) Tryz.func143, Tryz.results143]; first | exact J5 | refine J6 ?_)
  all_goals rfl
 ·cases h
def countL (l : List Int) (x : Int) : Int := l.foldl (fun n y => if y == x then w64 (n + 1) else n) 0
def sumW (l : List Int) : Int := l.foldl (fun n y => w64 (n + y)) 0
theorem foldl_next {α β : Type} {f : β -> α -> β} {l : List α} {k : Nat} {p : α} {b : β} (h : l[k]? = some p) : (l.take (k + 1)).foldl f b = f ((l.take k).foldl f b) p := by
 rw [take_next h, List.foldl_append]; rfl
def sp144 : List AV -> Option AV
 | [a, .int .i64 x] => (slV intC a).map fun l => .int .i64 (countL l x)
 | _ => none
theorem p144 : ∀ args v, sp144 args = some v -> v.flat = true := by
 intro args v h
 unfold sp144 at h
 split at h
 ·simp only [Option.map_eq_some_iff] at h; obtain ⟨l, _, rfl⟩ := h; rfl
 ·cases h
set_option maxHeartbeats 400000 in
theorem R144 : ∀ args v, sp144 args = some v -> ClR (dX i0) 144 args emptyHp (isRet v) := by
 intro args v h
 unfold sp144 at h
 split at h
 ·rename_i a x
  simp only [Option.map_eq_some_iff] at h
  obtain ⟨l, hl, rfl⟩ := h
  have hlen := sl_len hl
  have hout := sl_out hl
  have hmax := sl_max hl
  refine ClR.walk (c := _) rfl Tryz.func144 rfl (by kernel_rfl) rfl isRet_fail ?_
  simp only [entryEnv, Nat.reduceAdd]
  repeat' (first | refine goS ?_ | (refine go2 ?_ ?_ <;> intro hh) | fail)
  refine W.loopN l.length (fun k F => ∃ e, F = Fr.mk 144 false e .nil emptyHp [] none /\ e.get 1 = some (.int .i64 x) /\ e.get 5 = some (.int .i64 (countL (l.take k) x)) /\ e.get 8 = some a /\ e.get 9 = some (.int .i64 ↑l.length) /\ e.get 10 = some (.int .i64 ↑k) /\ k <= l.length) ?_ ?_
  ·refine ⟨_, rfl, ?_, ?_, ?_, ?_, ?_, ?_⟩ <;> simp [countL, go_sem, *, Nat.reduceLT, Int.reduceEq, Int.reduceBEq, Int.reduceLE, Int.reduceLT, Nat.reduceAdd, Nat.reduceBEq, Nat.reduceEqDiff, reduceIte, Nat.reduceLeDiff, Nat.reduceMul, Nat.reduceSub, reduceCtorEq]
  rintro k F ⟨e, rfl, h1, h5, h8, h9, h10, hk⟩
  by_cases hlt : k < l.length
  ·obtain ⟨p, hp⟩ := get_some hlt
   have hix := ints_idx hl hp
   have hd : decide ((k : Int) < (l.length : Int)) = true := by simpa using hlt
   have hw := wrap_succ hlt hmax
   have hnx : countL (l.take (k + 1)) x = if p == x then w64 (countL (l.take k) x + 1) else countL (l.take k) x := foldl_next hp
   generalize countL (l.take k) x = n at h5 hnx
   have HN := J1 hnx
   clear hl hnx
   repeat' (first | refine goS ?_ | (refine go2 ?_ ?_ <;> intro hh) | fail)
   all_goals
    refine ⟨hlt, _, rfl, ?_, ?_, ?_, ?_, ?_, by omega⟩
    all_goals first | exact Z2 | (rw [HN.out]; simp_all [w64])
  ·have hd : decide ((k : Int) < (l.length : Int)) = false := by simpa using hlt
   have hkl : k = l.length := by omega
   subst hkl
   rw [List.take_length] at h5
   repeat' (first | refine goS ?_ | (refine go2 ?_ ?_ <;> intro hh) | fail)
   all_goals (simp only [resV_def (X := dX i0) Tryz.func144, Tryz.results144]; first | exact J5 | refine J6 ?_)
   all_goals rfl
 ·cases h
theorem F144D : IntrFn Tryz.prog 144 (flatFnD sp144) := flatD_fn (X := dX i0) i0_sound p144 R144
theorem viewD_sl {α : Type} {c : Cd α} {a : AV} {l : List α} (h : slV c a = some l) (H : Heap) : viewD H a = some a := by
 have hp := sl_pur h
 rcases (slV_is h).1 with ⟨rfl | rfl, _⟩ | rfl
 ·rfl
 ·rfl
 ·simp only [viewD, viewV, hp, if_true]
theorem K144 {X : Ctx} (hX : X.intr 144 = some (flatFnD sp144)) (a : AV) (l : List Int) (x : Int) (ha : slV intC a = some l) (h : Heap) : Cl X 144 [a, .int .i64 x] h (.ret (.int .i64 (countL l x)) h none) :=
 Cl.intr hX (by
  have e1 : viewD h (.int .i64 x) = some (.int .i64 x) := rfl
  simp only [flatFnD, viewDs, viewD_sl ha, e1, sp144, ha, Option.map_some])
def workedL (l : List Int) : Int := w64 ((l.length : Int) - countL l (-1))
def sp97 : List AV -> Option AV
 | [a] => (slV intC a).map fun l => .int .i64 (workedL l)
 | _ => none
theorem p97 : ∀ args v, sp97 args = some v -> v.flat = true := by
 intro args v h
 unfold sp97 at h
 split at h
 ·simp only [Option.map_eq_some_iff] at h; obtain ⟨l, _, rfl⟩ := h; rfl
 ·cases h
noncomputable def cYD : Itr
 | 144 => some (flatFnD sp144)
 | 143 => some (pureFn sp143)
 | _ => none
theorem cYD_sound : Sound (dX cYD) := dX_sound (fun f g h => by
 unfold cYD at h
 split at h
 ·cases h; exact F144D
 ·cases h; exact F143
 ·cases h)
theorem R97 : ∀ args v, sp97 args = some v -> ClR (dX cYD) 97 args emptyHp (isRet v) := by
 intro args v h
 unfold sp97 at h
 split at h
 ·rename_i a
  simp only [Option.map_eq_some_iff] at h
  obtain ⟨l, hl, rfl⟩ := h
  have hlen := sl_len hl
  have hout := sl_out hl
  refine ClR.walk (c := _) rfl Tryz.func97 rfl (by kernel_rfl) rfl isRet_fail ?_
  simp only [entryEnv, Nat.reduceAdd]
  repeat' (first | refine goS ?_ | (apply U6; exact Z1; exact Z1; (exact K144 rfl _ _ _ (by assumption) _); simp only [pM, pN, rR, rP]) | (refine go2 ?_ ?_ <;> intro hh) | fail)
  all_goals (simp only [resV_def (X := dX cYD) Tryz.func97, Tryz.results97]; first | exact J5 | refine J6 ?_)
  all_goals rfl
 ·cases h
theorem F97D : IntrFn Tryz.prog 97 (flatFnD sp97) := flatD_fn (X := dX cYD) cYD_sound p97 R97
def sp171 : List AV -> Option AV
 | [a] => (slV intC a).map fun l => .int .i64 (sumW l)
 | _ => none
theorem p171 : ∀ args v, sp171 args = some v -> v.flat = true := by
 intro args v h
 unfold sp171 at h
 split at h
 ·simp only [Option.map_eq_some_iff] at h; obtain ⟨l, _, rfl⟩ := h; rfl
 ·cases h
set_option maxHeartbeats 400000 in
theorem R171 : ∀ args v, sp171 args = some v -> ClR (dX i0) 171 args emptyHp (isRet v) := by
 intro args v h
 unfold sp171 at h
 split at h
 ·rename_i a
  simp only [Option.map_eq_some_iff] at h
  obtain ⟨l, hl, rfl⟩ := h
  have hlen := sl_len hl
  have hout := sl_out hl
  have hmax := sl_max hl
  refine ClR.walk (c := _) rfl Tryz.func171 rfl (by kernel_rfl) rfl isRet_fail ?_
  simp only [entryEnv, Nat.reduceAdd]
  repeat' (first | refine goS ?_ | (refine go2 ?_ ?_ <;> intro hh) | fail)
  refine W.loopN l.length (fun k F => ∃ e, F = Fr.mk 171 false e .nil emptyHp [] none /\ e.get 3 = some (.int .i64 (sumW (l.take k))) /\ e.get 6 = some a /\ e.get 7 = some (.int .i64 ↑l.length) /\ e.get 8 = some (.int .i64 ↑k) /\ k <= l.length) ?_ ?_
  ·refine ⟨_, rfl, ?_, ?_, ?_, ?_, ?_⟩ <;> simp [sumW, go_sem, *, Nat.reduceLT, Int.reduceEq, Int.reduceBEq, Int.reduceLE, Int.reduceLT, Nat.reduceAdd, Nat.reduceBEq, Nat.reduceEqDiff, reduceIte, Nat.reduceLeDiff, Nat.reduceMul, Nat.reduceSub, reduceCtorEq]
  rintro k F ⟨e, rfl, h5, h8, h9, h10, hk⟩
  by_cases hlt : k < l.length
  ·obtain ⟨p, hp⟩ := get_some hlt
   have hix := ints_idx hl hp
   have hd : decide ((k : Int) < (l.length : Int)) = true := by simpa using hlt
   have hw := wrap_succ hlt hmax
   have hnx : sumW (l.take (k + 1)) = w64 (sumW (l.take k) + p) := foldl_next hp
   generalize sumW (l.take k) = n at h5 hnx
   have HN := J1 hnx
   clear hl hnx
   repeat' (first | refine goS ?_ | (refine go2 ?_ ?_ <;> intro hh) | fail)
   all_goals
    refine ⟨hlt, _, rfl, ?_, ?_, ?_, ?_, by omega⟩
    all_goals first | exact Z2 | (rw [HN.out]; simp [w64, go_sem, *, Nat.reduceLT, Int.reduceEq, Int.reduceBEq, Int.reduceLE, Int.reduceLT, Nat.reduceAdd, Nat.reduceBEq, Nat.reduceEqDiff, reduceIte, Nat.reduceLeDiff, Nat.reduceMul, Nat.reduceSub, reduceCtorEq])
  ·have hd : decide ((k : Int) < (l.length : Int)) = false := by simpa using hlt
   have hkl : k = l.length := by omega
   subst hkl
   rw [List.take_length] at h5
   repeat' (first | refine goS ?_ | (refine go2 ?_ ?_ <;> intro hh) | fail)
   all_goals (simp only [resV_def (X := dX i0) Tryz.func171, Tryz.results171]; first | exact J5 | refine J6 ?_)
   all_goals rfl
 ·cases h
theorem F171D : IntrFn Tryz.prog 171 (flatFnD sp171) := flatD_fn (X := dX i0) i0_sound p171 R171
def lisL : List AV -> Option (List (List Int))
 | [] => some []
 | a :: l => match slV intC a, lisL l with
  | some x, some r => some (x :: r)
  | _, _ => none
def lisV : AV -> Option (List (List Int))
 | .nilslice => some []
 | .vempty => some []
 | .vslice l => if l.length <= maxL then lisL l else none
 | _ => none
theorem lisL_get : ∀ {l : List AV} {g : List (List Int)}, lisL l = some g -> l.length = g.length /\ ∀ (k : Nat) (r : List Int), g[k]? = some r -> ∃ a, l[k]? = some a /\ slV intC a = some r
 | [], g, h => by cases h; exact ⟨rfl, fun k r e => by simp at e⟩
 | a :: l, g, h => by
  simp only [lisL] at h
  split at h
  ·rename_i x r h1 h2
   cases h
   obtain ⟨q1, q2⟩ := lisL_get h2
   refine ⟨by simp [q1], fun k y e => ?_⟩
   cases k with
   | zero => simp at e; subst e; exact ⟨a, rfl, h1⟩
   | succ k => simp at e; exact q2 k y e
  ·cases h
theorem lisL_pur : ∀ {l : List AV} {g : List (List Int)}, lisL l = some g -> ∀ a ∈ l, a.pur = true
 | [], g, h, a, ha => by cases ha
 | b :: l, g, h, a, ha => by
  simp only [lisL] at h
  split at h
  ·rename_i x r h1 h2
   rcases List.mem_cons.1 ha with rfl | ha
   ·exact sl_pur h1
   ·exact lisL_pur h2 a ha
  ·cases h
theorem lis_is {a : AV} {g : List (List Int)} (h : lisV a = some g) : ∃ l, isSl a l /\ lisL l = some g /\ g.length <= maxL := by
 unfold lisV at h
 split at h
 ·cases h; exact ⟨[], .inl ⟨.inl rfl, rfl⟩, rfl, by simp⟩
 ·cases h; exact ⟨[], .inl ⟨.inr rfl, rfl⟩, rfl, by simp⟩
 ·rename_i l
  split at h
  ·rename_i hl
   exact ⟨l, .inr rfl, h, by rw [<- (lisL_get h).1]; exact hl⟩
  ·cases h
 ·cases h
theorem lis_len {a : AV} {g : List (List Int)} (h : lisV a = some g) : lenS a = some g.length := by
 obtain ⟨l, h1, h2, _⟩ := lis_is h
 rw [h1.len, (lisL_get h2).1]
theorem lis_out {a : AV} {g : List (List Int)} (h : lisV a = some g) : outV (some a) = some a := by
 obtain ⟨l, h1, _⟩ := lis_is h
 exact h1.out
theorem lis_pur {a : AV} {g : List (List Int)} (h : lisV a = some g) : a.pur = true := by
 obtain ⟨l, h1, h2, _⟩ := lis_is h
 exact h1.pur (lisL_pur h2)
theorem lis_max {a : AV} {g : List (List Int)} (h : lisV a = some g) : g.length <= maxL := by
 obtain ⟨l, h1, h2, h3⟩ := lis_is h
 exact h3
theorem sl_cells {α : Type} {c : Cd α} {a : AV} {l : List α} (h : slV c a = some l) : a.cells = [a] := (slV_is h).1.cells
theorem lis_idx {a : AV} {g : List (List Int)} (h : lisV a = some g) {k : Nat} {r : List Int} (hk : g[k]? = some r) : ∃ b, slV intC b = some r /\ ∀ H, indexAddrV Tryz.prog H 36 a (.int .i64 ↑k) = some (.vptr [b]) := by
 obtain ⟨l, h1, h2, _⟩ := lis_is h
 obtain ⟨b, e1, e2⟩ := (lisL_get h2).2 k r hk
 refine ⟨b, e2, fun H => ?_⟩
 have := h1.idx (hp := H) (x := b) (m := 1) Tryz.underlying36 ty_lay24 e1 (by rw [sl_cells e2]; rfl)
 rw [sl_cells e2] at this
 exact this
def gridA (g : List (List Int)) (r : Int) (k : Nat) : Option Int := if 0 <= r then (match g[r.toNat]? with | some row => row[k]? | none => none) else none
def brG (g : List (List Int)) (p : List Int) : Nat -> Option Int
 | 0 => some 0
 | k + 1 => match brG g p k, p[k]? with
  | some n, some r => if r == -1 then some n else (match gridA g r k with | some x => some (w64 (n + x)) | none => none)
  | _, _ => none
theorem brG_down {g : List (List Int)} {p : List Int} : ∀ {j k : Nat} {n : Int}, brG g p k = some n -> j <= k -> ∃ m, brG g p j = some m
 | j, 0, n, h, hj => by
  obtain rfl : j = 0 := by omega
  exact ⟨_, h⟩
 | j, k + 1, n, h, hj => by
  by_cases e : j = k + 1
  ·subst e; exact ⟨_, h⟩
  ·simp only [brG] at h
   split at h
   ·rename_i m r h1 h2
    exact brG_down h1 (by omega)
   ·cases h
def pthV (h : Heap) (a : AV) : Option (List Int) :=
 match a with
 | .row id off len => (match h.get id with
  | some (.rw sz el) => if sz = 1 /\ off + len <= el.length then slV intC (.vslice ((el.drop off).take len)) else none
  | _ => none)
 | a => slV intC a
theorem pth_cases {h : Heap} {a : AV} {p : List Int} (e : pthV h a = some p) : slV intC a = some p \/ ∃ id off len el, a = .row id off len /\ h.get id = some (.rw 1 el) /\ off + len <= el.length /\ len <= maxL /\ (el.drop off).take len = p.map intC.enc := by
 unfold pthV at e
 split at e
 ·rename_i id off len
  split at e
  ·rename_i sz el hg
   split at e
   ·rename_i hc
    obtain ⟨rfl, hl⟩ := hc
    obtain ⟨q, q2⟩ := slV_is e
    rcases q with ⟨q | q, _⟩ | q
    ·cases q
    ·cases q
    ·injection q with q
     refine .inr ⟨_, _, _, _, rfl, hg, hl, ?_, q⟩
     have := congrArg List.length q
     simp only [List.length_take, List.length_drop, List.length_map] at this
     omega
   ·cases e
  ·cases e
 ·exact .inl e
theorem pth_parts {h : Heap} {a : AV} {p : List Int} (e : pthV h a = some p) : lenS a = some p.length /\ outV (some a) = some a /\ p.length <= maxL /\ a.cells = [a] /\ isTuple a = false := by
 rcases pth_cases e with q | ⟨id, off, len, el, rfl, hg, hl, hm, q⟩
 ·exact ⟨sl_len q, sl_out q, sl_max q, (slV_is q).1.cells, (slV_is q).1.tup⟩
 ·have := congrArg List.length q
  simp only [List.length_take, List.length_drop, List.length_map] at this
  have hle : p.length = len := by omega
  refine ⟨by rw [hle]; rfl, rfl, by omega, rfl, rfl⟩
theorem pth_view {h : Heap} {a : AV} {p : List Int} (e : pthV h a = some p) : ∃ x, viewV h a = some x /\ viewD h a = some x /\ slV intC x = some p := by
 rcases pth_cases e with q | ⟨id, off, len, el, rfl, hg, hl, hm, q⟩
 ·have hp := sl_pur q
  have h1 : viewV h a = some a := by
   rcases (slV_is q).1 with ⟨rfl | rfl, _⟩ | rfl
   ·rfl
   ·rfl
   ·simp [viewV, hp]
  refine ⟨a, h1, ?_, q⟩
  rcases (slV_is q).1 with ⟨rfl | rfl, _⟩ | rfl <;> exact h1
 ·have h1 : viewV h (.row id off len) = some (.vslice (p.map intC.enc)) := by
   have hpu : AV.purL (p.map intC.enc) = true := purL_of (enc_pur intC p)
   simp [viewV, hg, hl, q, hpu]
  have := congrArg List.length q
  simp only [List.length_take, List.length_drop, List.length_map] at this
  refine ⟨_, h1, h1, ?_⟩
  unfold slV
  have hl2 : (p.map intC.enc).length <= maxL := by simp only [List.length_map]; omega
  simp only [hl2, if_true]
  exact decL_map intC p
theorem pth_read {h : Heap} {a : AV} {p : List Int} (e : pthV h a = some p) {k : Nat} {r : Int} (hr : p[k]? = some r) : (∀ H, indexAddrV Tryz.prog H 24 a (.int .i64 (k : Int)) = some (.vptr [.int .i64 r])) \/
  ∃ id i el, h.get id = some (.rw 1 el) /\ el[i]? = some (.int .i64 r) /\ indexAddrV Tryz.prog h 24 a (.int .i64 (k : Int)) = some (.eptr id 1 i 0) := by
 rcases pth_cases e with q | ⟨id, off, len, el, rfl, hg, hl, hm, q⟩
 ·exact .inl (ints_idx q hr)
 ·have hlen := congrArg List.length q
  simp only [List.length_take, List.length_drop, List.length_map] at hlen
  obtain ⟨hk, _⟩ := List.getElem?_eq_some_iff.1 hr
  refine .inr ⟨id, off + k, el, hg, ?_, ?_⟩
  ·have h1 : ((el.drop off).take len)[k]? = some (.int .i64 r) := by rw [q]; simp [hr, intC]
   rw [List.getElem?_take, if_pos (by omega), List.getElem?_drop] at h1
   exact h1
  ·have hi : idxV (.int .i64 (k : Int)) len = some k := by
    simp only [idxV]
    rw [if_pos (by constructor <;> omega)]
    simp
   simp only [indexAddrV, Tryz.underlying24, ty_lay3, hi, hg, if_true]
def go122 : List AV -> Heap -> Option (AV × Heap)
 | [.agg [_, _, _, _, _, _, _, pa], la], h => match pthV h pa, lisV la with
  | some p, some g => (match brG g p p.length with | some n => some (.int .i64 n, h) | none => none)
  | _, _ => none
 | _, _ => none
theorem C122 (c : Itr) (hc : c 122 = none) (c0 c1 c2 c3 c4 c5 c6 pa la : AV) (p : List Int) (g : List (List Int)) (h : Heap) (hp : pthV h pa = some p) (hg : lisV la = some g) (n : Int) (hn : brG g p p.length = some n) :
  Cl (dX c) 122 [.agg [c0, c1, c2, c3, c4, c5, c6, pa], la] h (.ret (.int .i64 n) h none) := by
 refine ClR.cl ?_
 obtain ⟨hlen, hout, hmax, _, _⟩ := pth_parts hp
 have hout2 := lis_out hg
 refine ClR.walk (c := _) hc Tryz.func122 rfl (by kernel_rfl) rfl (fun e => by cases e) ?_
 simp only [entryEnv, Nat.reduceAdd]
 repeat' (first | refine goS ?_ | (refine go2 ?_ ?_ <;> intro hh) | fail)
 refine W.loopN p.length (fun k F => ∃ e m, F = Fr.mk 122 false e (Mp.nil.set 2 (0, [c0, c1, c2, c3, c4, c5, c6, pa])) h [] none /\ brG g p k = some m /\ e.get 1 = some la /\ e.get 5 = some (.int .i64 m) /\ e.get 9 = some pa /\ e.get 10 = some (.int .i64 ↑p.length) /\ e.get 11 = some (.int .i64 ↑k) /\ k <= p.length) ?_ ?_
 ·refine ⟨_, 0, rfl, rfl, ?_, ?_, ?_, ?_, ?_, ?_⟩ <;> simp [go_sem, *]
 rintro k F ⟨e, m, rfl, hm, h1, h5, h9, h10, h11, hk⟩
 by_cases hlt : k < p.length
 ·obtain ⟨r, hr⟩ := get_some hlt
  have hread := pth_read hp hr
  have hd : decide ((k : Int) < (p.length : Int)) = true := by simpa using hlt
  have hw := wrap_succ hlt hmax
  obtain ⟨m', hm'⟩ := brG_down hn (j := k + 1) (by omega)
  have hstep := hm'
  simp only [brG, hm, hr] at hstep
  have HM := J1 hm'
  clear hm' hm hn
  by_cases h1' : r = -1
  ·have hb : (r != -1) = false := by simp [h1']
   have hmm : m = m' := by
    have : (r == -1) = true := by simp [h1']
    rw [this] at hstep
    simpa using hstep
   subst hmm
   clear hstep hp hr h1'
   rcases hread with hix | ⟨id, i, el, hx1, hx2, hix⟩
   all_goals
    repeat' (first | refine goS ?_ | (refine go2 ?_ ?_ <;> intro hh) | fail)
   all_goals
    refine ⟨hlt, _, _, rfl, HM.out, ?_, ?_, ?_, ?_, ?_, by omega⟩
    all_goals exact Z2
  ·have hb : (r != -1) = true := by simp [h1']
   have hb2 : (r == -1) = false := by simp [h1']
   rw [hb2] at hstep
   simp only [Bool.false_eq_true, if_false] at hstep
   cases hx : gridA g r k with
   | none => rw [hx] at hstep; cases hstep
   | some x =>
    rw [hx] at hstep
    have hmm : w64 (m + x) = m' := Option.some.inj hstep
    unfold gridA at hx
    split at hx
    ·rename_i h0
     split at hx
     ·rename_i row hrow
      obtain ⟨rn, rfl⟩ : ∃ rn : Nat, r = rn := ⟨r.toNat, by omega⟩
      have hrow' : g[rn]? = some row := by simpa using hrow
      obtain ⟨b, hb1, hb3⟩ := lis_idx hg hrow'
      have hix2 := ints_idx hb1 hx
      have hout3 := sl_out hb1
      have hmm' : IntKind.i64.wrap (m + x) = m' := hmm
      clear hstep hp hr h1' hrow hrow' hb1 hx h0 hmm
      rcases hread with hix | ⟨id, i, el, hx1, hx2, hix⟩
      all_goals
       repeat' (first | refine goS ?_ | (refine go2 ?_ ?_ <;> intro hh) | fail)
      all_goals
       refine ⟨hlt, _, _, rfl, HM.out, ?_, ?_, ?_, ?_, ?_, by omega⟩
       all_goals exact Z2
     ·cases hx
    ·cases hx
 ·have hd : decide ((k : Int) < (p.length : Int)) = false := by simpa using hlt
  have hkl : k = p.length := by omega
  subst hkl
  have hmn : m = n := by rw [hm] at hn; exact Option.some.inj hn
  clear hm hn
  repeat' (first | refine goS ?_ | (refine go2 ?_ ?_ <;> intro hh) | fail)
  all_goals (simp only [resV_def (X := dX c) Tryz.func122, Tryz.results122]; first | exact J5 | refine J6 ?_)
  simp [isR, frzRes, dX_frz, dFrz, hmn]
theorem F122 : IntrFn Tryz.prog 122 go122 := heap_intr i0_sound fun args h v h' e => by
 unfold go122 at e
 split at e
 ·split at e
  ·split at e
   ·cases e
    exact C122 i0 rfl _ _ _ _ _ _ _ _ _ _ _ _ (by assumption) (by assumption) _ (by assumption)
   ·cases e
  ·cases e
 ·cases e
end Go.AM
namespace Go.TX
open Go Go.AM
variable [Keep]
def mapO {α β : Type} (f : α -> Option β) : List α -> Option (List β)
 | [] => some []
 | a :: r => match f a with
  | some b => (match mapO f r with | some l => some (b :: l) | none => none)
  | none => none
theorem mapO_len {α β : Type} {f : α -> Option β} : ∀ {l : List α} {o : List β}, mapO f l = some o -> o.length = l.length := by
 intro l
 induction l with
 | nil => intro o h; cases h; rfl
 | cons a l ih =>
  intro o h
  simp only [mapO] at h
  split at h
  ·split at h
   ·rename_i q
    cases h
    simp [ih q]
   ·cases h
  ·cases h
theorem mapO_app {α β : Type} {f : α -> Option β} : ∀ {l r : List α}, mapO f (l ++ r) = match mapO f l with | some a => (match mapO f r with | some b => some (a ++ b) | none => none) | none => none := by
 intro l r
 induction l with
 | nil => simp only [List.nil_append, mapO]; split <;> simp_all
 | cons a l ih =>
  simp only [List.cons_append, mapO, ih]
  cases f a with
  | none => rfl
  | some b =>
   simp only
   cases mapO f l with
   | none => rfl
   | some x => cases mapO f r <;> rfl
theorem mapO_none {α β : Type} {f : α -> Option β} {a : α} : ∀ {l : List α}, a ∈ l -> f a = none -> mapO f l = none := by
 intro l
 induction l with
 | nil => intro h; cases h
 | cons x l ih =>
  intro h e
  rcases List.mem_cons.1 h with rfl | h
  ·simp [mapO, e]
  ·simp only [mapO, ih h e]
   split <;> rfl
theorem mapO_next {α β : Type} {f : α -> Option β} {l : List α} {k : Nat} {a : α} {acc : List β} {b : β} (h : l[k]? = some a) (hk : mapO f (l.take k) = some acc) (hb : f a = some b) : mapO f (l.take (k + 1)) = some (acc ++ [b]) := by
 rw [take_next h, mapO_app, hk]
 simp [mapO, hb]
def matchF : List (List UInt8) -> List (Option (List UInt8)) -> Option (List Int)
 | [], [] => some []
 | x :: xs, some w :: fs => if x = w then matchF xs fs else none
 | x :: xs, none :: fs => match numP x with
  | some n => (match matchF xs fs with | some r => some (n :: r) | none => none)
  | none => none
 | _, _ => none
def fRoom : List (Option (List UInt8)) := [some wRoom, none, none, some wMake, none, some wWait, none, some wStart, none]
def fFan : List (Option (List UInt8)) := [some wFan, none, none]
def fHand : List (Option (List UInt8)) := [some wHand, none, none]
def fHouse : List (Option (List UInt8)) := [some wHouse, none]
def fOpen (k : Nat) : List (Option (List UInt8)) := some wOpen :: List.replicate k none
def rmOf (n : List Int) : Rm := ⟨n.getD 0 0, n.getD 1 0, n.getD 2 0, n.getD 3 0, n.getD 4 0⟩
def faOf (n : List Int) : Fa := ⟨n.getD 0 0, n.getD 1 0⟩
def haOf (n : List Int) : Ha := ⟨n.getD 0 0, n.getD 1 0⟩
def stepP (h : Hs) (l : List UInt8) : Option Hs :=
 if (spL 32 l).getD 0 [] = wRoom then (match matchF (spL 32 l) fRoom with | some n => some ⟨h.hours, h.rooms ++ [rmOf n], h.fans, h.op, h.hands⟩ | none => none)
 else if (spL 32 l).getD 0 [] = wFan then (match matchF (spL 32 l) fFan with | some n => some ⟨h.hours, h.rooms, h.fans ++ [faOf n], h.op, h.hands⟩ | none => none)
 else if (spL 32 l).getD 0 [] = wOpen then (match matchF (spL 32 l) (fOpen ((spL 32 l).length - 1)) with | some n => some ⟨h.hours, h.rooms, h.fans, n, h.hands⟩ | none => none)
 else (match matchF (spL 32 l) fHand with | some n => some ⟨h.hours, h.rooms, h.fans, h.op, h.hands ++ [haOf n]⟩ | none => none)
def foldF (f : Hs -> List UInt8 -> Option Hs) : Hs -> List (List UInt8) -> Option Hs
 | h, [] => some h
 | h, l :: r => match f h l with | some h' => foldF f h' r | none => none
theorem foldF_app {f : Hs -> List UInt8 -> Option Hs} : ∀ {l r : List (List UInt8)} {h : Hs}, foldF f h (l ++ r) = match foldF f h l with | some h' => foldF f h' r | none => none := by
 intro l r
 induction l with
 | nil => intro h; rfl
 | cons a l ih =>
  intro h
  simp only [List.cons_append, foldF]
  cases f h a with
  | none => rfl
  | some h' => exact ih
theorem match_small : ∀ {fs : List (Option (List UInt8))} {ws : List (List UInt8)} {n : List Int}, matchF ws fs = some n -> n.all smallP = true /\ n.length = (fs.filter Option.isNone).length := by
 intro fs
 induction fs with
 | nil =>
  intro ws n h
  cases ws with
  | nil => cases h; exact ⟨rfl, rfl⟩
  | cons a b => cases h
 | cons f fs ih =>
  intro ws n h
  cases ws with
  | nil => cases f <;> cases h
  | cons x xs =>
   cases f with
   | some w =>
    simp only [matchF] at h
    split at h
    ·obtain ⟨h1, h2⟩ := ih h
     exact ⟨h1, by simpa using h2⟩
    ·cases h
   | none =>
    simp only [matchF] at h
    split at h
    ·rename_i k hk
     split at h
     ·rename_i r hr
      cases h
      obtain ⟨h1, h2⟩ := ih hr
      refine ⟨?_, by simp [h2]⟩
      simp only [List.all_cons, h1, Bool.and_true]
      exact (num_is hk).1
     ·cases h
    ·cases h
theorem all5 {n : List Int} (h : n.all smallP = true) (hl : n.length = 5) : (rmOf n).ok = true := by
 match n, hl with
 | [a, b, c, d, e], _ =>
  simp only [List.all_cons, List.all_nil, Bool.and_true, Bool.and_eq_true] at h
  unfold Rm.ok rmOf
  simp only [Bool.and_eq_true]
  exact ⟨⟨⟨⟨h.1, h.2.1⟩, h.2.2.1⟩, h.2.2.2.1⟩, h.2.2.2.2⟩
theorem all2f {n : List Int} (h : n.all smallP = true) (hl : n.length = 2) : (faOf n).ok = true := by
 match n, hl with
 | [a, b], _ =>
  simp only [List.all_cons, List.all_nil, Bool.and_true, Bool.and_eq_true] at h
  unfold Fa.ok faOf
  simp only [Bool.and_eq_true]
  exact h
theorem all2h {n : List Int} (h : n.all smallP = true) (hl : n.length = 2) : (haOf n).ok = true := by
 match n, hl with
 | [a, b], _ =>
  simp only [List.all_cons, List.all_nil, Bool.and_true, Bool.and_eq_true] at h
  unfold Ha.ok haOf
  simp only [Bool.and_eq_true]
  exact h
theorem sm_mk {a : Int} {b : List Rm} {c : List Fa} {d : List Int} {e : List Ha} : smallH ⟨a, b, c, d, e⟩ = true ↔ smallP a = true /\ b.all Rm.ok = true /\ c.all Fa.ok = true /\ d.all smallP = true /\ e.all Ha.ok = true := by
 unfold smallH
 simp only [Bool.and_eq_true]
 constructor
 ·rintro ⟨⟨⟨⟨h1, h2⟩, h3⟩, h4⟩, h5⟩; exact ⟨h1, h2, h3, h4, h5⟩
 ·rintro ⟨h1, h2, h3, h4, h5⟩; exact ⟨⟨⟨⟨h1, h2⟩, h3⟩, h4⟩, h5⟩
theorem all_snoc {α : Type} {p : α -> Bool} {l : List α} {x : α} (h : l.all p = true) (hx : p x = true) : (l ++ [x]).all p = true := by
 rw [List.all_append, h]
 simp [hx]
theorem stepP_small {h h' : Hs} {l : List UInt8} (hs : smallH h = true) (e : stepP h l = some h') : smallH h' = true := by
 obtain ⟨a, b, c, d, g⟩ := h
 obtain ⟨h1, h2, h3, h4, h5⟩ := sm_mk.1 hs
 unfold stepP at e
 split at e
 ·split at e
  ·rename_i n hn
   cases e
   obtain ⟨k1, k2⟩ := match_small hn
   exact sm_mk.2 ⟨h1, all_snoc h2 (all5 k1 k2), h3, h4, h5⟩
  ·cases e
 ·split at e
  ·split at e
   ·rename_i n hn
    cases e
    obtain ⟨k1, k2⟩ := match_small hn
    exact sm_mk.2 ⟨h1, h2, all_snoc h3 (all2f k1 k2), h4, h5⟩
   ·cases e
  ·split at e
   ·split at e
    ·rename_i n hn
     cases e
     exact sm_mk.2 ⟨h1, h2, h3, (match_small hn).1, h5⟩
    ·cases e
   ·split at e
    ·rename_i n hn
     cases e
     obtain ⟨k1, k2⟩ := match_small hn
     exact sm_mk.2 ⟨h1, h2, h3, h4, all_snoc h5 (all2h k1 k2)⟩
    ·cases e
def readP (s : List UInt8) : Option Hs :=
 if 3 <= (spL 10 s).length then (match matchF (spL 32 ((spL 10 s).getD 0 [])) fHouse with
  | none => none
  | some n => match foldF stepP ⟨n.getD 0 0, [], [], [], []⟩ (((spL 10 s).drop 1).take ((spL 10 s).length - 3)) with
   | none => none
   | some h => if textH h = s then some h else none) else none
def pick (w : List (List UInt8)) : List (List UInt8) := if w.getD 0 [] = wRoom /\ w.length = 9 then [w.getD 1 [], w.getD 2 [], w.getD 4 [], w.getD 6 [], w.getD 8 []] else w.drop 1
def h0 : Hs := ⟨0, [], [], [], []⟩
end Go.TX
namespace Go.AM
open Go
variable [Keep]
def keepE : List Tmp -> Mp AV -> Mp AV -> Prop
 | [], _, _ => True
 | t :: r, a, b => b.get t = a.get t /\ keepE r a b
def keepL : List Tmp -> Mp (Nat × List AV) -> Mp (Nat × List AV) -> Prop
 | [], _, _ => True
 | t :: r, a, b => b.get t = a.get t /\ keepL r a b
theorem keepE_refl : ∀ (cs : List Tmp) (e : Mp AV), keepE cs e e
 | [], _ => trivial
 | _ :: r, e => ⟨rfl, keepE_refl r e⟩
theorem keepL_refl : ∀ (cs : List Tmp) (e : Mp (Nat × List AV)), keepL cs e e
 | [], _ => trivial
 | _ :: r, e => ⟨rfl, keepL_refl r e⟩
section
variable {X : Ctx} {Q : Out -> Prop} {body : Code} {f : FuncId} {rnd : Bool} {e0 : Mp AV} {lm0 : Mp (Nat × List AV)} {hp0 : Heap} {df : List (AV × List AV)} {up : Option (AV × Bool)}
def contH (n k : Nat) (f : FuncId) (rnd : Bool) (hp : Heap) (df : List (AV × List AV)) (up : Option (AV × Bool)) (cs ls : List Tmp) (e0 : Mp AV) (lm0 : Mp (Nat × List AV)) (I : Nat -> Mp AV -> Mp (Nat × List AV) -> Prop) (F' : Fr) : Prop :=
 k < n /\ ∃ e lm, F' = Fr.mk f rnd e lm hp df up /\ keepE cs e0 e /\ keepL ls lm0 lm /\ I (k + 1) e lm
theorem contH_mk {n k : Nat} {cs ls : List Tmp} {I : Nat -> Mp AV -> Mp (Nat × List AV) -> Prop} {e : Mp AV} {lm : Mp (Nat × List AV)} (h : k < n) (h1 : keepE cs e0 e) (h2 : keepL ls lm0 lm) (h3 : I (k + 1) e lm) : contH n k f rnd hp0 df up cs ls e0 lm0 I (Fr.mk f rnd e lm hp0 df up) := ⟨h, e, lm, rfl, h1, h2, h3⟩
theorem W.loopH (n : Nat) (cs ls : List Tmp) (I : Nat -> Mp AV -> Mp (Nat × List AV) -> Prop) (h0 : I 0 e0 lm0)
  (round : ∀ k e lm, k <= n -> keepE cs e0 e -> keepL ls lm0 lm -> I k e lm -> W X body (Fr.mk f rnd e lm hp0 df up) (thenQ (contH n k f rnd hp0 df up cs ls e0 lm0 I) Q)) : W X (.loop body) (Fr.mk f rnd e0 lm0 hp0 df up) Q := by
 refine W.loopN n (fun k F => ∃ e lm, F = Fr.mk f rnd e lm hp0 df up /\ k <= n /\ keepE cs e0 e /\ keepL ls lm0 lm /\ I k e lm) ⟨e0, lm0, rfl, Nat.zero_le _, keepE_refl _ _, keepL_refl _ _, h0⟩ ?_
 rintro k F ⟨e, lm, rfl, h1, h2, h3, h4⟩
 refine (round k e lm h1 h2 h3 h4).mono fun o q => ?_
 cases o with
 | norm F' =>
  obtain ⟨q1, e', lm', q2, q3, q4, q5⟩ := q
  exact ⟨q1, e', lm', q2, q1, q3, q4, q5⟩
 | _ => exact q
def contV (n k : Nat) (f : FuncId) (rnd : Bool) (df : List (AV × List AV)) (up : Option (AV × Bool)) (cs ls : List Tmp) (e0 : Mp AV) (lm0 : Mp (Nat × List AV)) (I : Nat -> Mp AV -> Mp (Nat × List AV) -> Heap -> Prop) (F' : Fr) : Prop :=
 k < n /\ ∃ e lm hp, F' = Fr.mk f rnd e lm hp df up /\ keepE cs e0 e /\ keepL ls lm0 lm /\ I (k + 1) e lm hp
theorem contV_mk {n k : Nat} {cs ls : List Tmp} {I : Nat -> Mp AV -> Mp (Nat × List AV) -> Heap -> Prop} {e : Mp AV} {lm : Mp (Nat × List AV)} {hp : Heap} (h : k < n) (h1 : keepE cs e0 e) (h2 : keepL ls lm0 lm) (h3 : I (k + 1) e lm hp) : contV n k f rnd df up cs ls e0 lm0 I (Fr.mk f rnd e lm hp df up) := ⟨h, e, lm, hp, rfl, h1, h2, h3⟩
theorem J9 {p : Prop} (h : p := by first | assumption | exact HLT0.out) : p := h
theorem J7 {p : Prop} (h : p := by (simp only [keepE, and_true, and_self, go_sem, *, Nat.reduceLT, Int.reduceEq, Int.reduceBEq, Int.reduceLE, Int.reduceLT, Nat.reduceAdd, Nat.reduceBEq, Nat.reduceEqDiff, reduceIte, Nat.reduceLeDiff, Nat.reduceMul, Nat.reduceSub, reduceCtorEq] <;> fail)) : p := h
theorem J8 {p : Prop} (h : p := by (simp only [keepL, and_true, and_self, go_sem, *, Nat.reduceLT, Int.reduceEq, Int.reduceBEq, Int.reduceLE, Int.reduceLT, Nat.reduceAdd, Nat.reduceBEq, Nat.reduceEqDiff, reduceIte, Nat.reduceLeDiff, Nat.reduceMul, Nat.reduceSub, reduceCtorEq] <;> fail)) : p := h
theorem W.loopV (n : Nat) (cs ls : List Tmp) (I : Nat -> Mp AV -> Mp (Nat × List AV) -> Heap -> Prop) (h0 : I 0 e0 lm0 hp0)
  (round : ∀ k e lm hp, k <= n -> keepE cs e0 e -> keepL ls lm0 lm -> I k e lm hp -> W X body (Fr.mk f rnd e lm hp df up) (thenQ (contV n k f rnd df up cs ls e0 lm0 I) Q)) : W X (.loop body) (Fr.mk f rnd e0 lm0 hp0 df up) Q := by
 refine W.loopN n (fun k F => ∃ e lm hp, F = Fr.mk f rnd e lm hp df up /\ k <= n /\ keepE cs e0 e /\ keepL ls lm0 lm /\ I k e lm hp) ⟨e0, lm0, hp0, rfl, Nat.zero_le _, keepE_refl _ _, keepL_refl _ _, h0⟩ ?_
 rintro k F ⟨e, lm, hp, rfl, h1, h2, h3, h4⟩
 refine (round k e lm hp h1 h2 h3 h4).mono fun o q => ?_
 cases o with
 | norm F' =>
  obtain ⟨q1, e', lm', hp', q2, q3, q4, q5⟩ := q
  exact ⟨q1, e', lm', hp', q2, q1, q3, q4, q5⟩
 | _ => exact q
end
end Go.AM
namespace Go.AM
open Go Go.Proofs
variable [Keep]
attribute [local irreducible] W WO WO1 WD WQ WT thenQ blockQ endR isRet retK Cl ClR
open Go.TX (mapO mapO_len)
structure Fk where
 what : Int
 num : Int
 hour : Int
def fkC : Cd Fk where
 enc r := .agg [.int .i64 r.what, .int .i64 r.num, .int .i64 r.hour]
 dec a := match a with | .agg [.int .i64 x, .int .i64 y, .int .i64 z] => some ⟨x, y, z⟩ | _ => none
 de _ := rfl
 ed a x h := by split at h <;> cases h; rfl
 pur _ := rfl
theorem fks_idx {a : AV} {l : List Fk} (h : slV fkC a = some l) {k : Nat} {p : Fk} (hp : l[k]? = some p) (H : Heap) : indexAddrV Tryz.prog H 88 a (.int .i64 ↑k) = some (.vptr [.int .i64 p.what, .int .i64 p.num, .int .i64 p.hour]) :=
 (slV_is h).1.idx (x := fkC.enc p) Tryz.underlying88 ty_lay52 (by simp [hp]) rfl
noncomputable def dustAt (h : Heap) (m : AV) (f : Fk) : Option (List (List Int) × List (List Int)) :=
 match lookupV Tryz.prog h 128 m (fkC.enc f) false with
 | some (.agg [a, b]) => (match lisV a, lisV b with | some x, some y => some (x, y) | _, _ => none)
 | _ => none
theorem dustAt_is {h : Heap} {m : AV} {f : Fk} {g : List (List Int) × List (List Int)} (e : dustAt h m f = some g) : ∃ a b, lookupV Tryz.prog h 128 m (.agg [.int .i64 f.what, .int .i64 f.num, .int .i64 f.hour]) false = some (.agg [a, b]) /\ lisV a = some g.1 /\ lisV b = some g.2 := by
 unfold dustAt at e
 split at e
 ·rename_i a b hl
  split at e
  ·rename_i x y h1 h2
   cases e
   exact ⟨a, b, hl, h1, h2⟩
  ·cases e
 ·cases e
def mostF (p : List Int) : Int -> List (List (List Int) × List (List Int)) -> Option Int
 | out, [] => some out
 | out, g :: r => match brG g.2 p p.length with
  | some n => mostF p (maxV out n) r
  | none => none
def leastF (p : List Int) : Int -> List (List (List Int) × List (List Int)) -> Option Int
 | out, [] => some out
 | out, g :: r => match brG g.1 p p.length with
  | some n => leastF p (if (decide (out < 0) || decide (n < out)) = true then n else out) r
  | none => none
noncomputable def go140 : List AV -> Heap -> Option (AV × Heap)
 | [.agg [_, _, _, _, _, aa, m, pa]], h => match slV fkC aa, pthV h pa with
  | some l, some p => (match mapO (dustAt h m) l with
   | some gs => (match mostF p 0 gs with | some n => some (.int .i64 n, h) | none => none)
   | none => none)
  | _, _ => none
 | _, _ => none
noncomputable def go148 : List AV -> Heap -> Option (AV × Heap)
 | [.agg [_, _, _, _, _, aa, m, pa]], h => match slV fkC aa, pthV h pa with
  | some l, some p => (match mapO (dustAt h m) l with
   | some gs => (match leastF p (-1) gs with | some n => some (.int .i64 n, h) | none => none)
   | none => none)
  | _, _ => none
 | _, _ => none
theorem mapO_at {α β : Type} {f : α -> Option β} : ∀ {l : List α} {o : List β}, mapO f l = some o -> ∀ {k : Nat} {a : α}, l[k]? = some a -> ∃ b, o[k]? = some b /\ f a = some b
 | [], o, h, k, a, e => by simp at e
 | x :: l, o, h, k, a, e => by
  simp only [mapO] at h
  split at h
  ·rename_i b hb
   split at h
   ·rename_i r hr
    cases h
    cases k with
    | zero => simp at e; subst e; exact ⟨b, rfl, hb⟩
    | succ k => simp at e; exact mapO_at hr e
   ·cases h
  ·cases h
theorem mostF_at {p : List Int} {gs : List (List (List Int) × List (List Int))} {k : Nat} {g : List (List Int) × List (List Int)} {out r : Int} (hg : gs[k]? = some g) (h : mostF p out (gs.drop k) = some r) : ∃ n, brG g.2 p p.length = some n /\ mostF p (maxV out n) (gs.drop (k + 1)) = some r := by
 have e : gs.drop k = g :: gs.drop (k + 1) := by
  obtain ⟨h1, h2⟩ := List.getElem?_eq_some_iff.1 hg
  rw [List.drop_eq_getElem_cons h1, h2]
 rw [e, mostF] at h
 split at h
 ·rename_i n hn; exact ⟨n, hn, h⟩
 ·cases h
theorem leastF_at {p : List Int} {gs : List (List (List Int) × List (List Int))} {k : Nat} {g : List (List Int) × List (List Int)} {out r : Int} (hg : gs[k]? = some g) (h : leastF p out (gs.drop k) = some r) : ∃ n, brG g.1 p p.length = some n /\ leastF p (if (decide (out < 0) || decide (n < out)) = true then n else out) (gs.drop (k + 1)) = some r := by
 have e : gs.drop k = g :: gs.drop (k + 1) := by
  obtain ⟨h1, h2⟩ := List.getElem?_eq_some_iff.1 hg
  rw [List.drop_eq_getElem_cons h1, h2]
 rw [e, leastF] at h
 split at h
 ·rename_i n hn; exact ⟨n, hn, h⟩
 ·cases h
theorem look_out {h : Heap} {x i v : AV} (e : lookupV Tryz.prog h 128 x i false = some v) : outV (some x) = some x := by
 unfold lookupV at e
 split at e
 ·split at e
  ·split at e
   ·rename_i es he
    unfold entriesV at he
    split at he
    ·rfl
    ·rfl
    ·cases he
   ·cases e
  ·cases e
 ·cases e
noncomputable def cYF : Itr
 | 122 => some go122
 | 97 => some (flatFnD sp97)
 | _ => none
theorem cYF_sound : Sound (dX cYF) := dX_sound (fun f g h => by
 unfold cYF at h
 split at h
 ·cases h; exact F122
 ·cases h; exact F97D
 ·cases h)
theorem K97r {X : Ctx} (hX : X.intr 97 = some (flatFnD sp97)) {a : AV} {l : List Int} {h : Heap} (ha : pthV h a = some l) : Cl X 97 [a] h (.ret (.int .i64 (workedL l)) h none) := by
 obtain ⟨x, _, e2, e3⟩ := pth_view ha
 exact Cl.intr hX (by simp only [flatFnD, viewDs, e2, sp97, e3, Option.map_some])
theorem K122 {X : Ctx} (hX : X.intr 122 = some go122) {c0 c1 c2 c3 c4 c5 c6 pa la : AV} {p : List Int} {g : List (List Int)} {n : Int} {h : Heap} (hp : pthV h pa = some p) (hg : lisV la = some g) (hn : brG g p p.length = some n) : Cl X 122 [.agg [c0, c1, c2, c3, c4, c5, c6, pa], la] h (.ret (.int .i64 n) h none) :=
 Cl.intr hX (by simp only [go122, hp, hg, hn])
attribute [local irreducible] mostF leastF brG dustAt
set_option maxHeartbeats 2000000 in
theorem C140 (c : Itr) (hc : c 140 = none) (hc2 : c 122 = some go122) (z0 z1 z2 z3 z4 aa m pa : AV) (l : List Fk) (p : List Int) (gs : List (List (List Int) × List (List Int))) (n : Int) (h : Heap) (ha : slV fkC aa = some l) (hp : pthV h pa = some p) (hm : mapO (dustAt h m) l = some gs) (hn : mostF p 0 gs = some n) :
  Cl (dX c) 140 [.agg [z0, z1, z2, z3, z4, aa, m, pa]] h (.ret (.int .i64 n) h none) := by
 refine ClR.cl ?_
 have hlen := sl_len ha
 have hout := sl_out ha
 have hmax := sl_max ha
 obtain ⟨_, hpo, _, _, _⟩ := pth_parts hp
 have hgl := mapO_len hm
 have HA := J1 ha
 have HP := J1 hp
 have HM := J1 hm
 clear ha hp hm
 refine ClR.walk (c := _) hc Tryz.func140 rfl (by kernel_rfl) rfl (fun e => by cases e) ?_
 simp only [entryEnv, Nat.reduceAdd]
 repeat' (first | refine goS ?_ | (refine go2 ?_ ?_ <;> intro hh) | fail)
 refine W.loopH (l.length) [1, 8, 9] [1] (fun k e lm => ∃ out, e.get 10 = some (.int .i64 ↑k) /\ e.get 3 = some (.int .i64 out) /\ mostF p out (gs.drop k) = some n) ?_ ?_
 ·skip
  refine ⟨0, ?_, ?_, by simpa using hn⟩ <;> simp [go_sem, *]
 intro k e lm hk0 hce hcl hinv
 simp only [keepE, and_true] at hce
 obtain ⟨c1, c8, c9⟩ := hce
 simp only [go_sem, *, Nat.reduceBEq, Nat.reduceEqDiff, reduceIte] at c1 c8 c9
 simp only [keepL, and_true] at hcl
 have d1 := hcl
 clear hcl
 simp only [go_sem, *, Nat.reduceBEq, Nat.reduceEqDiff, reduceIte] at d1
 obtain ⟨out, h10, h3, hmf⟩ := hinv
 by_cases hlt : k < l.length
 ·have hd0 : decide ((k : Int) < ((l.length : Nat) : Int)) = true := by first | (simpa using hlt; done) | (simp only [decide_eq_true_eq]; omega)
  have hv_0 := wrap_succ hlt hmax
  obtain ⟨f, hf⟩ := get_some hlt
  have hix := fun H => fks_idx HA.out hf H
  obtain ⟨g, hg1, hg2⟩ := mapO_at HM.out hf
  obtain ⟨a, b, hlk, hla, hlb⟩ := dustAt_is hg2
  obtain ⟨x, hx, hnx⟩ := mostF_at hg1 hmf
  have hbo := lis_out hlb
  have hmo := look_out hlk
  have k122 := fun d0 d1 d2 d3 d4 d5 d6 => K122 (X := dX c) (c0 := d0) (c1 := d1) (c2 := d2) (c3 := d3) (c4 := d4) (c5 := d5) (c6 := d6) hc2 HP.out hlb hx
  have k122 := k122 z0 z1 z2 z3 z4 aa m
  have hao : outV (some (.agg [a, b])) = some (.agg [a, b]) := rfl
  have hmv : foldV maxV .i64 out [.int .i64 x] = some (.int .i64 (maxV out x)) := rfl
  have HNX := J1 hnx
  have HLT0 := J1 hlt
  clear hf hg1 hg2 hla hlb hx hnx hlt hn hmf
  repeat' (first | (apply W.drawQ (id := 5) (l1 := [0, 1, 2, 3, 4, 5, 6, 7, 8, 9, 10]) (l2 := []); kernel_rfl; kernel_rfl; kernel_rfl; exact Z4) | refine go1 ?_ | (apply U6; exact Z1; exact Z1; (exact k122); simp only [pM, pN, rR, rP]) | (refine go2 ?_ ?_ <;> intro hh) | fail)
  all_goals refine contH_mk J9 J7 J8 ?_
  all_goals refine ⟨_, ?_, ?_, HNX.out⟩
  all_goals first | exact Z2 | skip
 ·have hd0 : decide ((k : Int) < ((l.length : Nat) : Int)) = false := by first | (simpa using hlt; done) | (simp only [decide_eq_false_iff_not]; omega)
  obtain rfl : k = l.length := by omega
  have : gs.drop l.length = [] := List.drop_of_length_le (by omega)
  rw [this] at hmf
  have hmf : out = n := by unfold mostF at hmf; exact Option.some.inj hmf
  subst hmf
  clear this hn
  repeat' (first | refine goS ?_ | (refine go2 ?_ ?_ <;> intro hh) | fail)
  all_goals (simp only [resV_def (X := dX c) Tryz.func140, Tryz.results140]; first | exact J5 | refine J6 ?_)
  all_goals rfl
set_option maxHeartbeats 2000000 in
theorem C148 (c : Itr) (hc : c 148 = none) (hc2 : c 122 = some go122) (z0 z1 z2 z3 z4 aa m pa : AV) (l : List Fk) (p : List Int) (gs : List (List (List Int) × List (List Int))) (n : Int) (h : Heap) (ha : slV fkC aa = some l) (hp : pthV h pa = some p) (hm : mapO (dustAt h m) l = some gs) (hn : leastF p (-1) gs = some n) :
  Cl (dX c) 148 [.agg [z0, z1, z2, z3, z4, aa, m, pa]] h (.ret (.int .i64 n) h none) := by
 refine ClR.cl ?_
 have hlen := sl_len ha
 have hout := sl_out ha
 have hmax := sl_max ha
 obtain ⟨_, hpo, _, _, _⟩ := pth_parts hp
 have hgl := mapO_len hm
 have HA := J1 ha
 have HP := J1 hp
 have HM := J1 hm
 clear ha hp hm
 refine ClR.walk (c := _) hc Tryz.func148 rfl (by kernel_rfl) rfl (fun e => by cases e) ?_
 simp only [entryEnv, Nat.reduceAdd]
 repeat' (first | refine goS ?_ | (refine go2 ?_ ?_ <;> intro hh) | fail)
 refine W.loopH (l.length) [1, 9, 10] [1] (fun k e lm => ∃ out, e.get 11 = some (.int .i64 ↑k) /\ e.get 3 = some (.int .i64 out) /\ leastF p out (gs.drop k) = some n) ?_ ?_
 ·skip
  refine ⟨-1, ?_, ?_, by simpa using hn⟩ <;> simp [go_sem, *]
 intro k e lm hk0 hce hcl hinv
 simp only [keepE, and_true] at hce
 obtain ⟨c1, c9, c10⟩ := hce
 simp only [go_sem, *, Nat.reduceBEq, Nat.reduceEqDiff, reduceIte] at c1 c9 c10
 simp only [keepL, and_true] at hcl
 have d1 := hcl
 clear hcl
 simp only [go_sem, *, Nat.reduceBEq, Nat.reduceEqDiff, reduceIte] at d1
 obtain ⟨out, h11, h3, hmf⟩ := hinv
 by_cases hlt : k < l.length
 ·have hd0 : decide ((k : Int) < ((l.length : Nat) : Int)) = true := by first | (simpa using hlt; done) | (simp only [decide_eq_true_eq]; omega)
  have hv_0 := wrap_succ hlt hmax
  obtain ⟨f, hf⟩ := get_some hlt
  have hix := fun H => fks_idx HA.out hf H
  obtain ⟨g, hg1, hg2⟩ := mapO_at HM.out hf
  obtain ⟨a, b, hlk, hla, hlb⟩ := dustAt_is hg2
  obtain ⟨x, hx, hnx⟩ := leastF_at hg1 hmf
  have hbo := lis_out hla
  have hmo := look_out hlk
  have k122 := fun d0 d1 d2 d3 d4 d5 d6 => K122 (X := dX c) (c0 := d0) (c1 := d1) (c2 := d2) (c3 := d3) (c4 := d4) (c5 := d5) (c6 := d6) hc2 HP.out hla hx
  have k122 := k122 z0 z1 z2 z3 z4 aa m
  have hao : outV (some (.agg [a, b])) = some (.agg [a, b]) := rfl
  have HLT0 := J1 hlt
  clear hf hg1 hg2 hla hlb hx hlt hn hmf
  have hcase : (decide (out < 0) = true /\ leastF p x (gs.drop (k + 1)) = some n) \/ (decide (out < 0) = false /\ decide (x < out) = true /\ leastF p x (gs.drop (k + 1)) = some n) \/ (decide (out < 0) = false /\ decide (x < out) = false /\ leastF p out (gs.drop (k + 1)) = some n) := by
   revert hnx
   cases decide (out < 0) <;> cases decide (x < out) <;> simp
  clear hnx
  rcases hcase with ⟨z5, hnx⟩ | ⟨z5, z6, hnx⟩ | ⟨z5, z6, hnx⟩
  all_goals (have HNX := J1 hnx; clear hnx)
  all_goals
   repeat' (first | (apply W.drawQ (id := 5) (l1 := [0, 1, 2, 3, 4, 5, 6, 7, 8]) (l2 := []); kernel_rfl; kernel_rfl; kernel_rfl; exact Z4) | refine go1 ?_ | (apply U6; exact Z1; exact Z1; (exact k122); simp only [pM, pN, rR, rP]) | (refine go2 ?_ ?_ <;> intro hh) | fail)
   all_goals refine contH_mk J9 J7 J8 ?_
   all_goals refine ⟨_, ?_, ?_, HNX.out⟩
   all_goals first | exact Z2 | skip
 ·have hd0 : decide ((k : Int) < ((l.length : Nat) : Int)) = false := by first | (simpa using hlt; done) | (simp only [decide_eq_false_iff_not]; omega)
  obtain rfl : k = l.length := by omega
  have : gs.drop l.length = [] := List.drop_of_length_le (by omega)
  rw [this] at hmf
  have hmf : out = n := by unfold leastF at hmf; exact Option.some.inj hmf
  subst hmf
  clear this hn
  repeat' (first | refine goS ?_ | (refine go2 ?_ ?_ <;> intro hh) | fail)
  all_goals (simp only [resV_def (X := dX c) Tryz.func148, Tryz.results148]; first | exact J5 | refine J6 ?_)
  all_goals rfl
theorem F140 : IntrFn Tryz.prog 140 go140 := heap_intr cYF_sound fun args h v h' e => by
 unfold go140 at e
 split at e
 ·split at e
  ·split at e
   ·split at e
    ·cases e
     exact C140 cYF rfl rfl _ _ _ _ _ _ _ _ _ _ _ _ _ (by assumption) (by assumption) (by assumption) (by assumption)
    ·cases e
   ·cases e
  ·cases e
 ·cases e
theorem F148 : IntrFn Tryz.prog 148 go148 := heap_intr cYF_sound fun args h v h' e => by
 unfold go148 at e
 split at e
 ·split at e
  ·split at e
   ·split at e
    ·cases e
     exact C148 cYF rfl rfl _ _ _ _ _ _ _ _ _ _ _ _ _ (by assumption) (by assumption) (by assumption) (by assumption)
    ·cases e
   ·cases e
  ·cases e
 ·cases e
def endsV (a b : Int) : Nat -> List AV
 | 0 => [.int .i64 0, .int .i64 0]
 | 1 => [.int .i64 a, .int .i64 0]
 | _ => [.int .i64 a, .int .i64 b]
noncomputable def go104 : List AV -> Heap -> Option (AV × Heap)
 | [.agg [z0, z1, z2, z3, z4, aa, m], pa], h => match go148 [.agg [z0, z1, z2, z3, z4, aa, m, pa]] h, go140 [.agg [z0, z1, z2, z3, z4, aa, m, pa]] h with
  | some (.int .i64 a, _), some (.int .i64 b, _) => some (.agg [.int .i64 a, .int .i64 b], h)
  | _, _ => none
 | _, _ => none
noncomputable def go90 : List AV -> Heap -> Option (AV × Heap)
 | [.agg [z0, z1, z2, z3, z4, aa, m], .agg [.int .i64 li, .int .i64 mo], pa], h => match pthV h pa, go140 [.agg [z0, z1, z2, z3, z4, aa, m, pa]] h with
  | some p, some (.int .i64 b, _) => some (.bool (decide (workedL p <= mo) && decide (b <= li)), h)
  | _, _ => none
 | _, _ => none
noncomputable def cYF2 : Itr
 | 140 => some go140
 | 148 => some go148
 | 97 => some (flatFnD sp97)
 | _ => none
theorem cYF2_sound : Sound (dX cYF2) := dX_sound (fun f g h => by
 unfold cYF2 at h
 split at h
 ·cases h; exact F140
 ·cases h; exact F148
 ·cases h; exact F97D
 ·cases h)
theorem go140_is {z0 z1 z2 z3 z4 aa m pa : AV} {h h' : Heap} {v : AV} (e : go140 [.agg [z0, z1, z2, z3, z4, aa, m, pa]] h = some (v, h')) : h' = h /\ ∃ n, v = .int .i64 n := by
 simp only [go140] at e
 split at e
 ·split at e
  ·split at e
   ·cases e; exact ⟨rfl, _, rfl⟩
   ·cases e
  ·cases e
 ·cases e
theorem go148_is {z0 z1 z2 z3 z4 aa m pa : AV} {h h' : Heap} {v : AV} (e : go148 [.agg [z0, z1, z2, z3, z4, aa, m, pa]] h = some (v, h')) : h' = h /\ ∃ n, v = .int .i64 n := by
 simp only [go148] at e
 split at e
 ·split at e
  ·split at e
   ·cases e; exact ⟨rfl, _, rfl⟩
   ·cases e
  ·cases e
 ·cases e
theorem go140_out {z0 z1 z2 z3 z4 aa m pa : AV} {h : Heap} {x : AV × Heap} (e : go140 [.agg [z0, z1, z2, z3, z4, aa, m, pa]] h = some x) : outV (some pa) = some pa /\ outV (some aa) = some aa /\ pa.cells = [pa] /\ isTuple pa = false := by
 simp only [go140] at e
 split at e
 ·rename_i l p e1 e2
  obtain ⟨_, p2, _, p4, p5⟩ := pth_parts e2
  exact ⟨p2, sl_out e1, p4, p5⟩
 ·cases e
attribute [local irreducible] go140 go148
theorem F104 : IntrFn Tryz.prog 104 go104 := heap_intr cYF2_sound fun args h v h' e => by
 unfold go104 at e
 split at e
 ·rename_i z0 z1 z2 z3 z4 aa m pa
  split at e
  ·rename_i a h1 b h2 e1 e2
   cases e
   obtain ⟨rfl, _⟩ := go148_is e1
   obtain ⟨rfl, _⟩ := go140_is e2
   obtain ⟨o1, o2, o3, o4⟩ := go140_out e2
   simp only [AV.cells] at o3
   simp only [isTuple] at o4
   have k148 := Cl.intr (X := dX cYF2) (f := 148) rfl e1
   have k140 := Cl.intr (X := dX cYF2) (f := 140) rfl e2
   clear e1 e2
   refine ClR.cl ?_
   refine ClR.walk (c := _) rfl Tryz.func104 rfl (by kernel_rfl) rfl (fun e => by cases e) ?_
   simp only [entryEnv, Nat.reduceAdd]
   have x0 : ∀ H, indexAddrV Tryz.prog H 192 (.lptr 6 0 0) (.int .i64 ((0 : Nat) : Int)) = some (.lptr 6 0 0) := fun H => by simp [indexAddrV, Tryz.underlying192, idxV, ty_lay3, ptrAdd]
   have x1 : ∀ H, indexAddrV Tryz.prog H 192 (.lptr 6 0 0) (.int .i64 ((1 : Nat) : Int)) = some (.lptr 6 0 1) := fun H => by simp [indexAddrV, Tryz.underlying192, idxV, ty_lay3, ptrAdd]
   have x0' : ∀ H, indexAddrV Tryz.prog H 192 (.lptr 6 0 0) (.int .i64 0) = some (.lptr 6 0 0) := x0
   have x1' : ∀ H, indexAddrV Tryz.prog H 192 (.lptr 6 0 0) (.int .i64 1) = some (.lptr 6 0 1) := x1
   have i0 : idxV (.int .i64 ((0 : Nat) : Int)) 2 = some 0 := rfl
   have i1 : idxV (.int .i64 ((1 : Nat) : Int)) 2 = some 1 := rfl
   have j0 : decide (((0 : Nat) : Int) < 2) = true := rfl
   have j1 : decide (((1 : Nat) : Int) < 2) = true := rfl
   have j2 : decide (((2 : Nat) : Int) < 2) = false := rfl
   have i0' : idxV (.int .i64 0) 2 = some 0 := rfl
   have i1' : idxV (.int .i64 1) 2 = some 1 := rfl
   repeat' (first | refine goS ?_ | (refine go2 ?_ ?_ <;> intro hh) | fail)
   refine W.loopH (2) [4, 6, 16] [4] (fun k e lm => e.get 17 = some (.int .i64 ↑k) /\ lm.get 6 = some (0, endsV a b k)) ?_ ?_
   ·skip
    refine ⟨?_, ?_⟩ <;> simp [endsV, go_sem, *, Nat.reduceLT, Int.reduceEq, Int.reduceBEq, Int.reduceLE, Int.reduceLT, Nat.reduceAdd, Nat.reduceBEq, Nat.reduceEqDiff, reduceIte, Nat.reduceLeDiff, Nat.reduceMul, Nat.reduceSub, reduceCtorEq]
   intro k e lm hk0 hce hcl hinv
   simp only [keepE, and_true] at hce
   obtain ⟨c4, c6, c16⟩ := hce
   simp only [go_sem, *, Nat.reduceBEq, Nat.reduceEqDiff, reduceIte] at c4 c6 c16
   simp only [keepL, and_true] at hcl
   have d4 := hcl
   clear hcl
   simp only [go_sem, *, Nat.reduceBEq, Nat.reduceEqDiff, reduceIte] at d4
   obtain ⟨h17, g6⟩ := hinv
   by_cases hlt : k < 2
   ·have hd0 : decide ((k : Int) < ((2 : Nat) : Int)) = true := by first | (simpa using hlt; done) | (simp only [decide_eq_true_eq]; omega)
    have hv_0 := wrap_succ hlt (by decide)
    have hk2 : k = 0 \/ k = 1 := by omega
    have HLT0 := J1 hlt
    clear hlt
    rcases hk2 with rfl | rfl
    ·simp only [endsV] at g6
     repeat' (first | refine goS ?_ | (apply U6; exact Z1; exact Z1; (focus (first | exact k148 | exact k140)); simp only [pM, pN, rR, rP]) | (refine go2 ?_ ?_ <;> intro hh) | fail)
     all_goals refine contH_mk J9 J7 J8 ?_
     all_goals refine ⟨?_, ?_⟩
     all_goals first | exact Z2 | skip
     simp only [endsV]
     simp only [go_sem, *, Nat.reduceLT, Int.reduceEq, Int.reduceBEq, Int.reduceLE, Int.reduceLT, Nat.reduceAdd, Nat.reduceBEq, Nat.reduceEqDiff, reduceIte, Nat.reduceLeDiff, Nat.reduceMul, Nat.reduceSub, reduceCtorEq]
    ·simp only [endsV] at g6
     repeat' (first | refine goS ?_ | (apply U6; exact Z1; exact Z1; (focus (first | exact k148 | exact k140)); simp only [pM, pN, rR, rP]) | (refine go2 ?_ ?_ <;> intro hh) | fail)
     all_goals refine contH_mk J9 J7 J8 ?_
     all_goals refine ⟨?_, ?_⟩
     all_goals first | exact Z2 | skip
     simp only [endsV]
     simp only [go_sem, *, Nat.reduceLT, Int.reduceEq, Int.reduceBEq, Int.reduceLE, Int.reduceLT, Nat.reduceAdd, Nat.reduceBEq, Nat.reduceEqDiff, reduceIte, Nat.reduceLeDiff, Nat.reduceMul, Nat.reduceSub, reduceCtorEq]
   ·have hd0 : decide ((k : Int) < ((2 : Nat) : Int)) = false := by first | (simpa using hlt; done) | (simp only [decide_eq_false_iff_not]; omega)
    obtain rfl : k = 2 := by omega
    simp only [endsV] at g6
    repeat' (first | refine goS ?_ | (apply U6; exact Z1; exact Z1; (focus (first | exact k148 | exact k140)); simp only [pM, pN, rR, rP]) | (refine go2 ?_ ?_ <;> intro hh) | fail)
    all_goals (simp only [resV_def (X := dX cYF2) Tryz.func104, Tryz.results104]; first | exact J5 | refine J6 ?_)
    all_goals rfl
  ·cases e
 ·cases e
theorem F90 : IntrFn Tryz.prog 90 go90 := heap_intr cYF2_sound fun args h v h' e => by
 unfold go90 at e
 split at e
 ·rename_i z0 z1 z2 z3 z4 aa m li mo pa
  split at e
  ·rename_i p b h1 e1 e2
   cases e
   obtain ⟨rfl, _⟩ := go140_is e2
   obtain ⟨o1, o2, o3, o4⟩ := go140_out e2
   simp only [AV.cells] at o3
   simp only [isTuple] at o4
   have k140 := Cl.intr (X := dX cYF2) (f := 140) rfl e2
   have k97 := K97r (X := dX cYF2) rfl e1
   clear e1 e2
   generalize workedL p = w at *
   refine ClR.cl ?_
   refine ClR.walk (c := _) rfl Tryz.func90 rfl (by kernel_rfl) rfl (fun e => by cases e) ?_
   simp only [entryEnv, Nat.reduceAdd]
   by_cases hw : w <= mo
   ·have hd : decide (w <= mo) = true := by simpa using hw
    clear hw
    repeat' (first | (apply W.drawQ (id := 1) (l1 := [0, 1, 2, 3, 4, 5, 6, 7, 8, 9, 10, 11, 12, 13, 14]) (l2 := []); kernel_rfl; kernel_rfl; kernel_rfl; exact Z4) | refine go1 ?_ | (apply U6; exact Z1; exact Z1; (focus (first | exact k97 | exact k140)); simp only [pM, pN, rR, rP]) | (refine go2 ?_ ?_ <;> intro hh) | fail)
    all_goals (simp only [resV_def (X := dX cYF2) Tryz.func90, Tryz.results90]; first | exact J5 | refine J6 ?_)
    all_goals simp [isR, frzRes, dX_frz, dFrz, hd]
   ·have hd : decide (w <= mo) = false := by simpa using hw
    clear hw
    repeat' (first | (apply W.drawQ (id := 1) (l1 := [0, 1, 2, 3, 4, 5, 6, 7, 8, 9, 10, 11, 12, 13, 14]) (l2 := []); kernel_rfl; kernel_rfl; kernel_rfl; exact Z4) | refine go1 ?_ | (apply U6; exact Z1; exact Z1; (focus (first | exact k97 | exact k140)); simp only [pM, pN, rR, rP]) | (refine go2 ?_ ?_ <;> intro hh) | fail)
    all_goals (simp only [resV_def (X := dX cYF2) Tryz.func90, Tryz.results90]; first | exact J5 | refine J6 ?_)
    all_goals simp [isR, frzRes, dX_frz, dFrz, hd]
  ·cases e
 ·cases e
end Go.AM
namespace Go.Proofs
open Go.Shelf
def Tryz.lays156_ren : Go.Shelf.Ren := ⟨fun | 156 => 153 | 165 => 182 | 166 => 183 | 169 => 184 | 240 => 196 | 241 => 197 | 276 => 201 | 277 => 202 | n => n, fun | 31 => 167 | 9 => 9 | 3 => 3 | 4 => 4 | 0 => 0 | 20 => 20 | 72 => 228 | 76 => 232 | 70 => 226 | 37 => 71 | 75 => 231 | 127 => 238 | 164 => 241 | 5 => 5 | 80 => 234 | n => n, fun | n => n⟩
theorem Tryz.lays156 : Go.Proofs.Lays.n156 Tryz.prog Tryz.lays156_ren := {
  mixed := by kernel_rfl
  f156 := Tryz.func153.trans (congrArg some (by kernel_rfl))
  f165 := Tryz.func182.trans (congrArg some (by kernel_rfl))
  f166 := Tryz.func183.trans (congrArg some (by kernel_rfl))
  f169 := Tryz.func184.trans (congrArg some (by kernel_rfl))
  f240 := Tryz.func196.trans (congrArg some (by kernel_rfl))
  f241 := Tryz.func197.trans (congrArg some (by kernel_rfl))
  f276 := Tryz.func201.trans (congrArg some (by kernel_rfl))
  f277 := Tryz.func202.trans (congrArg some (by kernel_rfl))
  t0 := Tryz.underlying0
  a0 := Tryz.isAgg0
  z0 := Tryz.sizeOf0
  v0 := Tryz.zeroValue0
  t3 := Tryz.underlying3
  a3 := Tryz.isAgg3
  z3 := Tryz.sizeOf3
  v3 := Tryz.zeroValue3
  t4 := Tryz.underlying4
  a4 := Tryz.isAgg4
  z4 := Tryz.sizeOf4
  v4 := Tryz.zeroValue4
  t9 := Tryz.underlying9
  a9 := Tryz.isAgg9
  z9 := Tryz.sizeOf9
  v9 := Tryz.zeroValue9
  t20 := Tryz.underlying20
  a20 := Tryz.isAgg20
  z20 := Tryz.sizeOf20
  v20 := Tryz.zeroValue20
  t31 := Tryz.underlying167
  a31 := Tryz.isAgg167
  z31 := Tryz.sizeOf167
  v31 := Tryz.zeroValue167
  t37 := Tryz.underlying71
  a37 := Tryz.isAgg71
  z37 := Tryz.sizeOf71
  v37 := Tryz.zeroValue71
  t70 := Tryz.underlying226
  a70 := Tryz.isAgg226
  z70 := Tryz.sizeOf226
  v70 := Tryz.zeroValue226
  t72 := Tryz.underlying228
  a72 := Tryz.isAgg228
  z72 := Tryz.sizeOf228
  v72 := Tryz.zeroValue228
  t75 := Tryz.underlying231
  a75 := Tryz.isAgg231
  z75 := Tryz.sizeOf231
  v75 := Tryz.zeroValue231
  t76 := Tryz.underlying232
  a76 := Tryz.isAgg232
  z76 := Tryz.sizeOf232
  v76 := Tryz.zeroValue232
  t127 := Tryz.underlying238
  a127 := Tryz.isAgg238
  z127 := Tryz.sizeOf238
  v127 := Tryz.zeroValue238
  t164 := Tryz.underlying241
  a164 := Tryz.isAgg241
  z164 := Tryz.sizeOf241
  v164 := Tryz.zeroValue241 }
theorem Tryz.Builder_Extra_156 : Builder.Extra Tryz.prog Tryz.lays156_ren := {
  sizeBuilder := by kernel_rfl
  liesBuilder := by kernel_rfl
  t5 := Tryz.underlying5
  a5 := Tryz.isAgg5
  z5 := Tryz.sizeOf5
  v5 := Tryz.zeroValue5
  infoByte := by kernel_rfl
  cellsByte := by kernel_rfl
  sizeByte := by kernel_rfl
  neB5 := by decide }
def Tryz.laysM171_ren : Go.Shelf.Ren := ⟨fun | 171 => 154 | 243 => 185 | 246 => 198 | 283 => 203 | 284 => 204 | 285 => 205 | 286 => 206 | 129 => 213 | 317 => 212 | 318 => 214 | 319 => 215 | 320 => 216 | 337 => 220 | 338 => 221 | n => n, fun | 3 => 3 | 9 => 9 | 2 => 2 | 4 => 4 | 171 => 244 | 0 => 0 | 53 => 189 | 37 => 71 | 5 => 5 | 173 => 246 | 212 => 251 | 51 => 187 | 20 => 20 | 213 => 252 | 46 => 146 | 232 => 259 | 233 => 260 | n => n, fun | 17 => 1 | 18 => 4 | 19 => 5 | n => n⟩
theorem Tryz.laysM171 : Go.Proofs.LaysM.n171 Tryz.prog Tryz.laysM171_ren := {
  mixed := by kernel_rfl
  f129 := Tryz.func213.trans (congrArg some (by kernel_rfl))
  f171 := Tryz.func154.trans (congrArg some (by kernel_rfl))
  f243 := Tryz.func185.trans (congrArg some (by kernel_rfl))
  f246 := Tryz.func198.trans (congrArg some (by kernel_rfl))
  f283 := Tryz.func203.trans (congrArg some (by kernel_rfl))
  f284 := Tryz.func204.trans (congrArg some (by kernel_rfl))
  f285 := Tryz.func205.trans (congrArg some (by kernel_rfl))
  f286 := Tryz.func206.trans (congrArg some (by kernel_rfl))
  f317 := Tryz.func212.trans (congrArg some (by kernel_rfl))
  f318 := Tryz.func214.trans (congrArg some (by kernel_rfl))
  f319 := Tryz.func215.trans (congrArg some (by kernel_rfl))
  f320 := Tryz.func216.trans (congrArg some (by kernel_rfl))
  f337 := Tryz.func220.trans (congrArg some (by kernel_rfl))
  f338 := Tryz.func221.trans (congrArg some (by kernel_rfl))
  t0 := Tryz.underlying0
  a0 := Tryz.isAgg0
  z0 := Tryz.sizeOf0
  v0 := Tryz.zeroValue0
  t2 := Tryz.underlying2
  a2 := Tryz.isAgg2
  z2 := Tryz.sizeOf2
  v2 := Tryz.zeroValue2
  t3 := Tryz.underlying3
  a3 := Tryz.isAgg3
  z3 := Tryz.sizeOf3
  v3 := Tryz.zeroValue3
  t4 := Tryz.underlying4
  a4 := Tryz.isAgg4
  z4 := Tryz.sizeOf4
  v4 := Tryz.zeroValue4
  t5 := Tryz.underlying5
  a5 := Tryz.isAgg5
  z5 := Tryz.sizeOf5
  v5 := Tryz.zeroValue5
  t9 := Tryz.underlying9
  a9 := Tryz.isAgg9
  z9 := Tryz.sizeOf9
  v9 := Tryz.zeroValue9
  t20 := Tryz.underlying20
  a20 := Tryz.isAgg20
  z20 := Tryz.sizeOf20
  v20 := Tryz.zeroValue20
  t37 := Tryz.underlying71
  a37 := Tryz.isAgg71
  z37 := Tryz.sizeOf71
  v37 := Tryz.zeroValue71
  t46 := Tryz.underlying146
  a46 := Tryz.isAgg146
  z46 := Tryz.sizeOf146
  v46 := Tryz.zeroValue146
  t51 := Tryz.underlying187
  a51 := Tryz.isAgg187
  z51 := Tryz.sizeOf187
  v51 := Tryz.zeroValue187
  t53 := Tryz.underlying189
  a53 := Tryz.isAgg189
  z53 := Tryz.sizeOf189
  v53 := Tryz.zeroValue189
  t171 := Tryz.underlying244
  a171 := Tryz.isAgg244
  z171 := Tryz.sizeOf244
  v171 := Tryz.zeroValue244
  t173 := Tryz.underlying246
  a173 := Tryz.isAgg246
  z173 := Tryz.sizeOf246
  v173 := Tryz.zeroValue246
  t212 := Tryz.underlying251
  a212 := Tryz.isAgg251
  z212 := Tryz.sizeOf251
  v212 := Tryz.zeroValue251
  t213 := Tryz.underlying252
  a213 := Tryz.isAgg252
  z213 := Tryz.sizeOf252
  t232 := Tryz.underlying259
  a232 := Tryz.isAgg259
  z232 := Tryz.sizeOf259
  v232 := Tryz.zeroValue259
  t233 := Tryz.underlying260
  a233 := Tryz.isAgg260
  z233 := Tryz.sizeOf260
  v233 := Tryz.zeroValue260
  g17 := by kernel_rfl
  g18 := by kernel_rfl
  g19 := by kernel_rfl
  i0 := by kernel_rfl
  i2 := by kernel_rfl
  i3 := by kernel_rfl
  i4 := by kernel_rfl
  i5 := by kernel_rfl
  i9 := by kernel_rfl
  i20 := by kernel_rfl
  i37 := by kernel_rfl
  i46 := by kernel_rfl
  i51 := by kernel_rfl
  i53 := by kernel_rfl
  i171 := by kernel_rfl
  i173 := by kernel_rfl
  i212 := by kernel_rfl
  i232 := by kernel_rfl
  i233 := by kernel_rfl
  m17 := by kernel_rfl
  m18 := by kernel_rfl
  m19 := by kernel_rfl }
def Tryz.lays219_ren : Go.Shelf.Ren := ⟨fun | 219 => 200 | 217 => 208 | 225 => 209 | 224 => 210 | 267 => 211 | 266 => 218 | 314 => 219 | n => n, fun | 9 => 9 | 3 => 3 | 4 => 4 | 5 => 5 | 46 => 146 | 146 => 253 | 51 => 187 | n => n, fun | 1 => 0 | n => n⟩
theorem Tryz.lays219 : Go.Proofs.Lays.n219 Tryz.prog Tryz.lays219_ren := {
  mixed := by kernel_rfl
  f217 := Tryz.func208.trans (congrArg some (by kernel_rfl))
  f219 := Tryz.func200.trans (congrArg some (by kernel_rfl))
  f224 := Tryz.func210.trans (congrArg some (by kernel_rfl))
  f225 := Tryz.func209.trans (congrArg some (by kernel_rfl))
  f266 := Tryz.func218.trans (congrArg some (by kernel_rfl))
  f267 := Tryz.func211.trans (congrArg some (by kernel_rfl))
  f314 := Tryz.func219.trans (congrArg some (by kernel_rfl))
  t3 := Tryz.underlying3
  a3 := Tryz.isAgg3
  z3 := Tryz.sizeOf3
  v3 := Tryz.zeroValue3
  t4 := Tryz.underlying4
  a4 := Tryz.isAgg4
  z4 := Tryz.sizeOf4
  v4 := Tryz.zeroValue4
  t5 := Tryz.underlying5
  a5 := Tryz.isAgg5
  z5 := Tryz.sizeOf5
  v5 := Tryz.zeroValue5
  t9 := Tryz.underlying9
  a9 := Tryz.isAgg9
  z9 := Tryz.sizeOf9
  v9 := Tryz.zeroValue9
  t46 := Tryz.underlying146
  a46 := Tryz.isAgg146
  z46 := Tryz.sizeOf146
  v46 := Tryz.zeroValue146
  t51 := Tryz.underlying187
  a51 := Tryz.isAgg187
  z51 := Tryz.sizeOf187
  v51 := Tryz.zeroValue187
  t146 := Tryz.underlying253
  a146 := Tryz.isAgg253
  z146 := Tryz.sizeOf253
  v146 := Tryz.zeroValue253
  g1 := by kernel_rfl }
def Tryz.lays138_ren : Go.Shelf.Ren := ⟨fun | 138 => 160 | 195 => 189 | 218 => 190 | 143 => 191 | 219 => 200 | 217 => 208 | 225 => 209 | 224 => 210 | 267 => 211 | 266 => 218 | 314 => 219 | n => n, fun | 9 => 9 | 3 => 3 | 4 => 4 | 5 => 5 | 0 => 0 | 46 => 146 | 146 => 253 | 51 => 187 | n => n, fun | 1 => 0 | n => n⟩
theorem Tryz.lays138 : Go.Proofs.Lays.n138 Tryz.prog Tryz.lays138_ren := {
  mixed := by kernel_rfl
  f138 := Tryz.func160.trans (congrArg some (by kernel_rfl))
  f143 := Tryz.func191.trans (congrArg some (by kernel_rfl))
  f195 := Tryz.func189.trans (congrArg some (by kernel_rfl))
  f217 := Tryz.func208.trans (congrArg some (by kernel_rfl))
  f218 := Tryz.func190.trans (congrArg some (by kernel_rfl))
  f219 := Tryz.func200.trans (congrArg some (by kernel_rfl))
  f224 := Tryz.func210.trans (congrArg some (by kernel_rfl))
  f225 := Tryz.func209.trans (congrArg some (by kernel_rfl))
  f266 := Tryz.func218.trans (congrArg some (by kernel_rfl))
  f267 := Tryz.func211.trans (congrArg some (by kernel_rfl))
  f314 := Tryz.func219.trans (congrArg some (by kernel_rfl))
  t0 := Tryz.underlying0
  a0 := Tryz.isAgg0
  z0 := Tryz.sizeOf0
  v0 := Tryz.zeroValue0
  t3 := Tryz.underlying3
  a3 := Tryz.isAgg3
  z3 := Tryz.sizeOf3
  v3 := Tryz.zeroValue3
  t4 := Tryz.underlying4
  a4 := Tryz.isAgg4
  z4 := Tryz.sizeOf4
  v4 := Tryz.zeroValue4
  t5 := Tryz.underlying5
  a5 := Tryz.isAgg5
  z5 := Tryz.sizeOf5
  v5 := Tryz.zeroValue5
  t9 := Tryz.underlying9
  a9 := Tryz.isAgg9
  z9 := Tryz.sizeOf9
  v9 := Tryz.zeroValue9
  t46 := Tryz.underlying146
  a46 := Tryz.isAgg146
  z46 := Tryz.sizeOf146
  v46 := Tryz.zeroValue146
  t51 := Tryz.underlying187
  a51 := Tryz.isAgg187
  z51 := Tryz.sizeOf187
  v51 := Tryz.zeroValue187
  t146 := Tryz.underlying253
  a146 := Tryz.isAgg253
  z146 := Tryz.sizeOf253
  v146 := Tryz.zeroValue253
  g1 := by kernel_rfl }
def Tryz.lays146_ren : Go.Shelf.Ren := ⟨fun | 146 => 156 | 221 => 186 | 268 => 199 | 138 => 160 | 143 => 191 | 195 => 189 | 197 => 207 | 218 => 190 | 219 => 200 | 260 => 217 | 217 => 208 | 225 => 209 | 224 => 210 | 267 => 211 | 266 => 218 | 314 => 219 | n => n, fun | 9 => 9 | 31 => 167 | 3 => 3 | 4 => 4 | 0 => 0 | 105 => 248 | 21 => 21 | 5 => 5 | 46 => 146 | 119 => 255 | 139 => 258 | 138 => 257 | 146 => 253 | 51 => 187 | n => n, fun | 1 => 0 | 3 => 2 | 4 => 3 | n => n⟩
theorem Tryz.lays146 : Go.Proofs.Lays.n146 Tryz.prog Tryz.lays146_ren := {
  mixed := by kernel_rfl
  f138 := Tryz.func160.trans (congrArg some (by kernel_rfl))
  f143 := Tryz.func191.trans (congrArg some (by kernel_rfl))
  f146 := Tryz.func156.trans (congrArg some (by kernel_rfl))
  f195 := Tryz.func189.trans (congrArg some (by kernel_rfl))
  f197 := Tryz.func207.trans (congrArg some (by kernel_rfl))
  f217 := Tryz.func208.trans (congrArg some (by kernel_rfl))
  f218 := Tryz.func190.trans (congrArg some (by kernel_rfl))
  f219 := Tryz.func200.trans (congrArg some (by kernel_rfl))
  f221 := Tryz.func186.trans (congrArg some (by kernel_rfl))
  f224 := Tryz.func210.trans (congrArg some (by kernel_rfl))
  f225 := Tryz.func209.trans (congrArg some (by kernel_rfl))
  f260 := Tryz.func217.trans (congrArg some (by kernel_rfl))
  f266 := Tryz.func218.trans (congrArg some (by kernel_rfl))
  f267 := Tryz.func211.trans (congrArg some (by kernel_rfl))
  f268 := Tryz.func199.trans (congrArg some (by kernel_rfl))
  f314 := Tryz.func219.trans (congrArg some (by kernel_rfl))
  t0 := Tryz.underlying0
  a0 := Tryz.isAgg0
  z0 := Tryz.sizeOf0
  v0 := Tryz.zeroValue0
  t3 := Tryz.underlying3
  a3 := Tryz.isAgg3
  z3 := Tryz.sizeOf3
  v3 := Tryz.zeroValue3
  t4 := Tryz.underlying4
  a4 := Tryz.isAgg4
  z4 := Tryz.sizeOf4
  v4 := Tryz.zeroValue4
  t5 := Tryz.underlying5
  a5 := Tryz.isAgg5
  z5 := Tryz.sizeOf5
  v5 := Tryz.zeroValue5
  t9 := Tryz.underlying9
  a9 := Tryz.isAgg9
  z9 := Tryz.sizeOf9
  v9 := Tryz.zeroValue9
  t21 := Tryz.underlying21
  a21 := Tryz.isAgg21
  z21 := Tryz.sizeOf21
  v21 := Tryz.zeroValue21
  t31 := Tryz.underlying167
  a31 := Tryz.isAgg167
  z31 := Tryz.sizeOf167
  v31 := Tryz.zeroValue167
  t46 := Tryz.underlying146
  a46 := Tryz.isAgg146
  z46 := Tryz.sizeOf146
  v46 := Tryz.zeroValue146
  t51 := Tryz.underlying187
  a51 := Tryz.isAgg187
  z51 := Tryz.sizeOf187
  v51 := Tryz.zeroValue187
  t105 := Tryz.underlying248
  a105 := Tryz.isAgg248
  z105 := Tryz.sizeOf248
  v105 := Tryz.zeroValue248
  t119 := Tryz.underlying255
  a119 := Tryz.isAgg255
  z119 := Tryz.sizeOf255
  t138 := Tryz.underlying257
  a138 := Tryz.isAgg257
  z138 := Tryz.sizeOf257
  v138 := Tryz.zeroValue257
  t139 := Tryz.underlying258
  a139 := Tryz.isAgg258
  z139 := Tryz.sizeOf258
  v139 := Tryz.zeroValue258
  t146 := Tryz.underlying253
  a146 := Tryz.isAgg253
  z146 := Tryz.sizeOf253
  v146 := Tryz.zeroValue253
  g1 := by kernel_rfl
  g3 := by kernel_rfl
  g4 := by kernel_rfl }
end Go.Proofs
namespace Go.AM
open Go Go.Proofs Go.Shelf Go.RowKit
variable [Keep]
theorem lib_int {P : Program} {f : FuncId} {C : Cfg} {h : Heap} {w : World} {vs : Array Value} (r : WR C h w) (n : Int) (hc : Calls P f vs w fun e w' => e = .returned (.int .i64 n) /\ w' = w) (cs : List Frame) :
  Left P f C h w (lone (Frame.enter P f vs .normal) cs w) cs (.ret (.int .i64 n) h none) :=
 lib_left r (hc.mono fun e w' q => by
  obtain ⟨rfl, rfl⟩ := q
  exact ⟨_, rfl, .int _ _, rfl, rfl, rfl, Nat.le_refl _, fun _ _ => rfl⟩) cs
def spCount : List AV -> Option AV
 | [.str s, .str [c]] => some (.int .i64 (s.count c : Nat))
 | _ => none
theorem count_intr {P : Program} {ρ : Ren} (L : Lays.n138 P ρ) (hb : ∃ fn, P.funcs[ρ.f 138]? = some fn /\ fn.body.isSome = true) : IntrFn P (ρ.f 138) (atOnce spCount) := by
 intro args h v h' hg C w vs r hv
 refine ⟨hb, fun cs => ?_⟩
 unfold atOnce spCount at hg
 split at hg
 ·rename_i v0 hsp
  split at hsp
  ·rename_i s c
   cases hsp
   cases hg
   obtain ⟨u, t, rfl, ha, ht⟩ := hv.two
   cases ha
   cases ht
   refine lib_int r _ ((Any.strings_Count_one L ⟨⟨s⟩⟩ c w).mono fun e w' q => ?_) cs
   obtain ⟨he, hw⟩ := q
   refine ⟨?_, hw⟩
   rw [he]
   show Ending.returned (Value.int .i64 ((s.count c : Nat) : Int)) = _
   rfl
  ·cases hsp
 ·cases hg
def spIndex : List AV -> Option AV
 | [.str s, .str [c]] => some (.int .i64 (Lib.indexByte s c))
 | _ => none
theorem index_intr {P : Program} {ρ : Ren} (L : Lays.n219 P ρ) (hb : ∃ fn, P.funcs[ρ.f 219]? = some fn /\ fn.body.isSome = true) : IntrFn P (ρ.f 219) (atOnce spIndex) := by
 intro args h v h' hg C w vs r hv
 refine ⟨hb, fun cs => ?_⟩
 unfold atOnce spIndex at hg
 split at hg
 ·rename_i v0 hsp
  split at hsp
  ·rename_i s c
   cases hsp
   cases hg
   obtain ⟨u, t, rfl, ha, ht⟩ := hv.two
   cases ha
   cases ht
   exact lib_int r _ (Any.stringslite_Index_one L ⟨⟨s⟩⟩ c w) cs
  ·cases hsp
 ·cases hg
theorem r154 : Tryz.laysM171_ren.f 171 = 154 := rfl
theorem b154 : ∃ fn, Tryz.prog.funcs[154]? = some fn /\ fn.body.isSome = true := ⟨_, Tryz.func154, by kernel_rfl⟩
theorem F154 (hT : TabK Tryz.prog) : IntrFn Tryz.prog 154 (atOnce spItoa) := by
 have := itoa_intr Tryz.laysM171 hT (by rw [r154]; exact b154)
 rw [r154] at this
 exact this
theorem r153 : Tryz.lays156_ren.f 156 = 153 := rfl
theorem b153 : ∃ fn, Tryz.prog.funcs[153]? = some fn /\ fn.body.isSome = true := ⟨_, Tryz.func153, by kernel_rfl⟩
theorem F153 : IntrFn Tryz.prog 153 spJoin := by
 have := join_intr Tryz.lays156 Tryz.Builder_Extra_156 (by rw [r153]; exact b153)
 rw [r153] at this
 exact this
theorem r156 : Tryz.lays146_ren.f 146 = 156 := rfl
theorem b156 : ∃ fn, Tryz.prog.funcs[156]? = some fn /\ fn.body.isSome = true := ⟨_, Tryz.func156, by kernel_rfl⟩
theorem F156 : IntrFn Tryz.prog 156 (atOnce spSplit) := by
 have := split_intr Tryz.lays146 (by kernel_rfl) (by rw [r156]; exact b156)
 rw [r156] at this
 exact this
theorem r160 : Tryz.lays138_ren.f 138 = 160 := rfl
theorem b160 : ∃ fn, Tryz.prog.funcs[160]? = some fn /\ fn.body.isSome = true := ⟨_, Tryz.func160, by kernel_rfl⟩
theorem F160 : IntrFn Tryz.prog 160 (atOnce spCount) := by
 have := count_intr Tryz.lays138 (by rw [r160]; exact b160)
 rw [r160] at this
 exact this
theorem r200 : Tryz.lays219_ren.f 219 = 200 := rfl
theorem b200 : ∃ fn, Tryz.prog.funcs[200]? = some fn /\ fn.body.isSome = true := ⟨_, Tryz.func200, by kernel_rfl⟩
theorem F200 : IntrFn Tryz.prog 200 (atOnce spIndex) := by
 have := index_intr Tryz.lays219 (by rw [r200]; exact b200)
 rw [r200] at this
 exact this
theorem K200 {X : Ctx} (hX : X.intr 200 = some (atOnce spIndex)) (s : List UInt8) (c : UInt8) (h : Heap) : Cl X 200 [.str s, .str [c]] h (.ret (.int .i64 (Lib.indexByte s c)) h none) := Cl.intr hX rfl
end Go.AM
namespace Go.AM
open Go
variable [Keep]
section
variable {X : Ctx} {ops : Array Oper} {K P : AV -> Fr -> Prop} {F : Fr} {d : Option Tmp} {T : TypeId} {p : String} {af : Array Edge}
end
theorem strOp_eql (a b : List UInt8) : strOp .eql a b = some (.bool (a == b)) := rfl
theorem strOp_neq (a b : List UInt8) : strOp .neq a b = some (.bool (a != b)) := rfl
attribute [go_sem] strOp_eql strOp_neq
end Go.AM
namespace Go.AM
open Go
variable [Keep]
section
variable {X : Ctx} {ops : Array Oper} {K P : AV -> Fr -> Prop} {F : Fr} {d : Option Tmp} {T : TypeId} {p : String} {af : Array Edge}
end
end Go.AM
