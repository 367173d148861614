/-
  A part of the proof: contracts of functions.
-/
import Derived.Test.YtkpbdjpekjdhcaaGreatDoorUBL
import Derived.Test.YtkpbdjpekjdhcaaGreatDoorUAZ
import Derived.Test.YtkpbdjpekjdhcaaGreatDoorUBK
import Derived.Test.YtkpbdjpekjdhcaaGreatDoorUBA
set_option linter.unusedSectionVars false
set_option linter.unusedVariables false
set_option linter.unusedSimpArgs false
set_option maxRecDepth 100000
namespace Go.AM
open Go Go.Proofs
variable [Keep]
attribute [local irreducible] W WO WO1 WD WQ WT thenQ blockQ endR isRet retK Cl ClR
open Go.TX (Rm Fa Ha Hs)
structure HsD (h : Heap) (m : Hs) (ra fa oa ha : AV) : Prop where
 r : SeeV h rmC ra m.rooms
 f : SeeV h faC fa m.fans
 o : SeeV h intC oa m.op
 h : SeeV h haC ha m.hands
theorem HsD.view {h : Heap} {m : Hs} {ra fa oa ha : AV} (v : HsD h m ra fa oa ha) : ∃ x, viewD h (.agg [.int .i64 m.hours, ra, fa, oa, ha]) = some x ∧ hsV x = some m := by
 obtain ⟨ra', v1, s1⟩ := v.r
 obtain ⟨fa', v2, s2⟩ := v.f
 obtain ⟨oa', v3, s3⟩ := v.o
 obtain ⟨ha', v4, s4⟩ := v.h
 exact ⟨_, viewD_hs v1 v2 v3 v4, by simp only [hsV, s1, s2, s3, s4]⟩
theorem HsD.fans {h : Heap} {m : Hs} {ra fa oa ha : AV} (hm : HsA m ra fa oa ha) {F : List Fa} {b : AV} (hb : SeeV h faC b F) : HsD h { m with fans := F } ra b oa ha := ⟨SeeV.of hm.r h, hb, SeeV.of hm.o h, SeeV.of hm.h h⟩
theorem HsD.hands {h : Heap} {m : Hs} {ra fa oa ha : AV} (hm : HsA m ra fa oa ha) {H : List Ha} {b : AV} (hb : SeeV h haC b H) : HsD h { m with hands := H } ra fa oa b := ⟨SeeV.of hm.r h, SeeV.of hm.f h, SeeV.of hm.o h, hb⟩
theorem K23D {X : Ctx} (hX : X.intr 23 = some (newQ sp23)) {ra fa oa ha : AV} {m : Hs} {h : Heap} (v : HsD h m ra fa oa ha) :
  Cl X 23 [.agg [.int .i64 m.hours, ra, fa, oa, ha]] h (.ret (knV m) h none) := by
 obtain ⟨x, e1, e2⟩ := v.view
 refine Cl.newQ hX (l := [x]) ?_ ?_
 ·simp only [viewDs, e1]
 ·simp only [sp23, e2, Option.map_some]
theorem flat61 : ∀ args v, sp61 args = some v → v.flat = true := by
 intro args v h
 unfold sp61 at h
 split at h
 ·split at h
  ·cases h
   unfold safeV
   split <;> rfl
  ·cases h
 ·cases h
theorem F61D : IntrFn Tryz.prog 61 (flatFnD sp61) := flat_of_pure flat61 F61
theorem K61D {X : Ctx} (hX : X.intr 61 = some (flatFnD sp61)) {ra fa oa ha pa : AV} {m : Hs} {p : List Int} {h : Heap} (v : HsD h m ra fa oa ha) (limit : Int) (hp : slV intC pa = some p) :
  Cl X 61 [.agg [.int .i64 m.hours, ra, fa, oa, ha], .int .i64 limit, pa] h (.ret (safeV m p limit) h none) := by
 obtain ⟨x, e1, e2⟩ := v.view
 have e3 : viewD h (.int .i64 limit) = some (.int .i64 limit) := viewD_p rfl
 exact Cl.intr hX (by simp only [flatFnD, viewDs, e1, e3, viewD_sl hp, sp61, e2, hp])
theorem flat52 : ∀ args v, sp52 args = some v → v.flat = true := by
 intro args v h
 unfold sp52 at h
 split at h
 ·split at h
  ·cases h
   unfold stafV
   split <;> rfl
  ·cases h
 ·cases h
theorem F52D : IntrFn Tryz.prog 52 (flatFnD sp52) := flat_of_pure flat52 F52
theorem K52D {X : Ctx} (hX : X.intr 52 = some (flatFnD sp52)) {ra fa oa ha dv : AV} {m : Hs} {g : List (List Int)} {h : Heap} (v : HsD h m ra fa oa ha) (hg : lisV dv = some g) :
  Cl X 52 [.agg [.int .i64 m.hours, ra, fa, oa, ha], dv] h (.ret (stafV m g) h none) := by
 obtain ⟨x, e1, e2⟩ := v.view
 exact Cl.intr hX (by simp only [flatFnD, viewDs, e1, viewD_p (lis_pur hg), sp52, e2, hg])
theorem SeeV.row {α : Type} {c : Cd α} {h : Heap} {id sz : Nat} {l : List α} (hg : h.get id = some (.rw sz (l.map c.enc))) (hn : l.length ≤ maxL) : SeeV h c (.row id 0 l.length) l := by
 refine ⟨.vslice (l.map c.enc), ?_, slV_mk (.inr rfl) hn⟩
 have hp : AV.purL (l.map c.enc) = true := by
  clear hg hn
  induction l with
  | nil => rfl
  | cons a l ih =>
   simp only [List.map_cons, AV.purL, Bool.and_eq_true]
   exact ⟨enc_pur c [a] _ (by simp), ih⟩
 have h1 : (l.map c.enc).take l.length = l.map c.enc := List.take_of_length_le (by simp)
 simp only [viewV, hg, List.length_map, Nat.zero_add, Nat.le_refl, if_true, List.drop_zero, h1, hp]
theorem kn_get2 {m : Hs} {nn : Nat} : ∀ {R r : Nat}, r < R → (knG m nn R)[r]? = some (rowK m nn r nn)
 | 0, r, h => by omega
 | R + 1, r, h => by
  rw [knG]
  by_cases e : r < R
  ·rw [List.getElem?_append_left (by rw [knG_len]; exact e)]
   exact kn_get2 e
  ·obtain rfl : r = R := by omega
   rw [List.getElem?_append_right (by rw [knG_len]; exact Nat.le_refl _), knG_len]
   simp
theorem rowK_get2 {m : Hs} {nn r : Nat} : ∀ {n k : Nat}, k < n → (rowK m nn r n)[k]? = some (airS m (rstP nn k r))
 | 0, k, h => by omega
 | n + 1, k, h => by
  rw [rowK]
  by_cases e : k < n
  ·rw [List.getElem?_append_left (by rw [rowK_len]; exact e)]
   exact rowK_get2 e
  ·obtain rfl : k = n := by omega
   rw [List.getElem?_append_right (by rw [rowK_len]; exact Nat.le_refl _), rowK_len]
   simp
theorem kn_row2 (m : Hs) (nn R : Nat) {r : Nat} (hr : r < R) : ∃ b, outV (some b) = some b ∧ b.cells = [b] ∧ isTuple b = false ∧ lenS b = some nn ∧ (∀ H, indexAddrV Tryz.prog H 30 (slN (spansE (knG m nn R))) (.int .i64 (r : Int)) = some (.vptr [b])) ∧ ∀ k, k < nn → ∀ H, indexAddrV Tryz.prog H 104 b (.int .i64 (k : Int)) = some (.vptr [.int .i64 (airS m (rstP nn k r)).1, .int .i64 (airS m (rstP nn k r)).2]) := by
 refine ⟨slN (spanE (rowK m nn r nn)), (slN_is _).out, (slN_is _).cells, (slN_is _).tup, ?_, spans_idx (kn_get2 hr), fun k hk => span_idx (rowK_get2 hk)⟩
 have := (slN_is (spanE (rowK m nn r nn))).len
 rw [this]
 unfold spanE
 rw [List.length_map, rowK_len]
end Go.AM
