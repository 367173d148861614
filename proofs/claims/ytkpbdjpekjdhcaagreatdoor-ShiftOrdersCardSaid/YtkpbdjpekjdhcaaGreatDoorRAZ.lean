/-
  A part of the proof: contracts of functions.
-/
import Derived.Test.YtkpbdjpekjdhcaaGreatDoorRAY
import Derived.Test.YtkpbdjpekjdhcaaGreatDoorRAM
import Derived.Test.YtkpbdjpekjdhcaaGreatDoorRAX
import Derived.Test.YtkpbdjpekjdhcaaGreatDoorRAU
set_option linter.unusedSectionVars false
set_option linter.unusedVariables false
set_option linter.unusedSimpArgs false
set_option maxRecDepth 100000
namespace Go.AM
open Go Go.Proofs
variable [Keep]
attribute [local irreducible] W WO WO1 WD WQ WT thenQ blockQ endR isRet retK Cl ClR
open Go.TX (Rm Fa Ha Hs)
attribute [local irreducible] runsB madeR madeF drawnP sumW rowF nowF roomR
def sp174 : List AV → Option AV
 | [b, x] => match slV intC b, rmC.dec x with
  | some r, some p => some (.bool (r.all fun n => inB n p.lo p.hi))
  | _, _ => none
 | _ => none
theorem any_not {α : Type} (p : α → Bool) (l : List α) : (!(l.any fun x => !p x)) = l.all p := by
 induction l with
 | nil => rfl
 | cons a l ih => simp only [List.any_cons, List.all_cons, Bool.not_or, Bool.not_not, ih]
section
variable {c : Itr}
structure CxF (c : Itr) : Prop where
 h77 : c 77 = none
 h82 : c 82 = some (flatFnD sp82)
 h126 : c 126 = some (pureFn sp126)
 h106 : c 106 = some (pureFn sp106)
 h127 : c 127 = none
 h173 : c 173 = none
 h174 : c 174 = some (pureFn sp174)
end
end Go.AM
namespace Go.AM
open Go Go.Proofs
variable [Keep]
attribute [local irreducible] W WO WO1 WD WQ WT thenQ blockQ endR isRet retK Cl ClR
open Go.TX (Rm Fa Ha Hs)
attribute [local irreducible] runsB madeR madeF drawnP sumW rowF nowF houseB fitsB
def LsI (dv : AV) (g : List (List Int)) : Prop := ∃ es : List AV, isSl dv es ∧ es.length = g.length ∧ ∀ (k : Nat) (l : List Int), g[k]? = some l → ∃ b, es[k]? = some b ∧ isSl b (intsE l)
theorem LsI.idx {dv : AV} {g : List (List Int)} (q : LsI dv g) {k : Nat} {l : List Int} (hk : g[k]? = some l) : ∃ b, isSl b (intsE l) ∧ ∀ H, indexAddrV Tryz.prog H 36 dv (.int .i64 ↑k) = some (.vptr [b]) := by
 obtain ⟨es, h1, h2, h3⟩ := q
 obtain ⟨b, e1, e2⟩ := h3 k l hk
 refine ⟨b, e2, fun H => ?_⟩
 have := h1.idx (hp := H) (x := b) (m := 1) Tryz.underlying36 ty_lay24 e1 (by rw [e2.cells]; rfl)
 rw [e2.cells] at this
 exact this
theorem LsI.len {dv : AV} {g : List (List Int)} (q : LsI dv g) : lenS dv = some g.length := by
 obtain ⟨es, h1, h2, h3⟩ := q
 rw [h1.len, h2]
theorem LsI.out {dv : AV} {g : List (List Int)} (q : LsI dv g) : outV (some dv) = some dv := by
 obtain ⟨es, h1, h2, h3⟩ := q
 exact h1.out
section
variable {c : Itr}
end
theorem viewV_p {h : Heap} {a : AV} (hp : a.pur = true) : viewV h a = some a := by
 cases a <;> first | (simp [AV.pur] at hp; done) | (simp only [viewV, hp, if_true]; done)
theorem viewVs_p {h : Heap} : ∀ {l : List AV}, AV.purL l = true → viewVs h l = some l
 | [], _ => rfl
 | a :: r, hp => by
  simp only [AV.purL, Bool.and_eq_true] at hp
  simp only [viewVs, viewV_p hp.1, viewVs_p hp.2]
theorem viewD_p {h : Heap} {a : AV} (hp : a.pur = true) : viewD h a = some a := by
 cases a with
 | agg l => simp only [viewD, viewVs_p (l := l) (by simpa [AV.pur] using hp), Option.map_some]
 | _ => exact viewV_p (h := h) hp
theorem viewDs_p {h : Heap} : ∀ {l : List AV}, AV.purL l = true → viewDs h l = some l
 | [], _ => rfl
 | a :: r, hp => by
  simp only [AV.purL, Bool.and_eq_true] at hp
  simp only [viewDs, viewD_p hp.1, viewDs_p hp.2]
theorem K78 {X : Ctx} (hX : X.intr 78 = some (newQ sp78)) {ra fa oa ha dv : AV} {m : Hs} {g : List (List Int)} (hm : HsA m ra fa oa ha) (hg : lisV dv = some g) (hb : houseB m = true) {x : Fk} (hs : sizedB m g x = true) {f : Fl} (hf : findF x (failsH m) = some f) (h : Heap) :
  Cl X 78 [.agg [.int .i64 m.hours, ra, fa, oa, ha], .agg [dv, .int .i64 x.what, .int .i64 x.num, .int .i64 x.hour]] h (.ret (slN (rowsE (runL m f g m.hours.toNat m.rooms.length))) h none) := by
 have h1 := hm.pur
 have h2 := hm.hs
 have h3 := lis_pur hg
 obtain ⟨w, a, b⟩ := x
 refine Cl.newQ hX (l := [.agg [.int .i64 m.hours, ra, fa, oa, ha], .agg [dv, .int .i64 w, .int .i64 a, .int .i64 b]]) ?_ ?_
 ·exact viewDs_p (by simp only [AV.purL, AV.pur, sl_pur hm.r, sl_pur hm.f, sl_pur hm.o, sl_pur hm.h, h3, Bool.and_self])
 ·simp only [sp78, h2, hg, hb, hs, hf, Bool.and_self, if_true]
end Go.AM
