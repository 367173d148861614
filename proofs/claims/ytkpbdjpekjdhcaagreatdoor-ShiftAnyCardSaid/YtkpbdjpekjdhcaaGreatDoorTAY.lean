/-
  A part of the proof: contracts of functions.
-/
import Derived.Test.YtkpbdjpekjdhcaaGreatDoorTAX
import Derived.Test.YtkpbdjpekjdhcaaGreatDoorTAV
import Derived.Test.YtkpbdjpekjdhcaaGreatDoorTAL
import Derived.Test.YtkpbdjpekjdhcaaGreatDoorTAM
import Derived.Test.YtkpbdjpekjdhcaaGreatDoorTAU
set_option linter.unusedSectionVars false
set_option linter.unusedVariables false
set_option linter.unusedSimpArgs false
set_option maxRecDepth 100000
namespace Go.AM
open Go Go.Proofs
variable [Keep]
attribute [local irreducible] W WO WO1 WD WQ WT thenQ blockQ endR isRet retK Cl ClR
open Go.TX (Rm Fa Ha Hs)
attribute [local irreducible] runsB madeR madeF drawnP sumW
theorem all_at {α : Type} {p : α → Bool} {l : List α} {k : Nat} {x : α} (h : l[k]? = some x) (ha : (l.take k).all p = true) : (l.take (k + 1)).all p = p x := by rw [take_next h, List.all_append, ha]; simp
section
variable {c : Itr}
end
end Go.AM
namespace Go.AM
open Go Go.Proofs
variable [Keep]
attribute [local irreducible] W WO WO1 WD WQ WT thenQ blockQ endR isRet retK Cl ClR
open Go.TX (Rm Fa Ha Hs)
attribute [local irreducible] runsB madeR madeF drawnP sumW rowF nowF
theorem lisL_rows : ∀ (g : List (List Int)), (∀ l ∈ g, l.length ≤ maxL) → lisL (rowsE g) = some g
 | [], _ => rfl
 | l :: g, h => by
  have h1 : slV intC (slN (intsE l)) = some l := ints_sl l (h l (by simp))
  have h2 := lisL_rows g fun x hx => h x (by simp [hx])
  simp only [rowsE, List.map_cons] at h2 ⊢
  simp only [lisL, h1, h2]
theorem rows_lis {g : List (List Int)} (h : g.length ≤ maxL) (hm : ∀ l ∈ g, l.length ≤ maxL) : lisV (slN (rowsE g)) = some g := by
 have h1 := lisL_rows g hm
 cases g with
 | nil => rfl
 | cons a r =>
  show lisV (.vslice (rowsE (a :: r))) = _
  unfold lisV
  simp only
  rw [if_pos (by rw [rowsE_len]; exact h), h1]
theorem row_next (m : Hs) (f : Fl) (r : Nat) (md : Nat → Int) (k : Nat) : rowF m f r md (k + 1) = rowF m f r md k ++ [nowF m f r md (k + 1)] := by conv => lhs; unfold rowF
theorem now_next (m : Hs) (f : Fl) (r : Nat) (md : Nat → Int) (k : Nat) : nowF m f r md (k + 1) = maxV 0 (w64 ((if runsB m f r k = true then w64 (nowF m f r md k + md k) else nowF m f r md k) - sumW (drawnP m f r k m.fans.length))) := by conv => lhs; unfold nowF
theorem now_zero (m : Hs) (f : Fl) (r : Nat) (md : Nat → Int) : nowF m f r md 0 = (m.rooms.getD r rm0).stt := by unfold nowF; rfl
theorem row_zero (m : Hs) (f : Fl) (r : Nat) (md : Nat → Int) : rowF m f r md 0 = [] := by unfold rowF; rfl
end Go.AM
namespace Go.AM
open Go Go.Proofs
variable [Keep]
attribute [local irreducible] W WO WO1 WD WQ WT thenQ blockQ endR isRet retK Cl ClR
open Go.TX (Rm Fa Ha Hs)
attribute [local irreducible] runsB madeR madeF drawnP sumW rowF nowF houseB fitsB
def LsI (dv : AV) (g : List (List Int)) : Prop := ∃ es : List AV, isSl dv es ∧ es.length = g.length ∧ ∀ (k : Nat) (l : List Int), g[k]? = some l → ∃ b, es[k]? = some b ∧ isSl b (intsE l)
theorem LsI.idx {dv : AV} {g : List (List Int)} (q : LsI dv g) {k : Nat} {l : List Int} (hk : g[k]? = some l) : ∃ b, isSl b (intsE l) ∧ ∀ H, indexAddrV Tryz.prog H 36 dv (.int .i64 ↑k) = some (.vptr [b]) := by
 obtain ⟨es, h1, h2, h3⟩ := q
 obtain ⟨b, e1, e2⟩ := h3 k l hk
 refine ⟨b, e2, fun H => ?_⟩
 have := h1.idx (hp := H) (x := b) (m := 1) Tryz.underlying36 ty_lay24 e1 (by rw [e2.cells]; rfl)
 rw [e2.cells] at this
 exact this
theorem LsI.len {dv : AV} {g : List (List Int)} (q : LsI dv g) : lenS dv = some g.length := by
 obtain ⟨es, h1, h2, h3⟩ := q
 rw [h1.len, h2]
theorem LsI.out {dv : AV} {g : List (List Int)} (q : LsI dv g) : outV (some dv) = some dv := by
 obtain ⟨es, h1, h2, h3⟩ := q
 exact h1.out
section
variable {c : Itr}
end
theorem viewV_p {h : Heap} {a : AV} (hp : a.pur = true) : viewV h a = some a := by
 cases a <;> first | (simp [AV.pur] at hp; done) | (simp only [viewV, hp, if_true]; done)
theorem viewVs_p {h : Heap} : ∀ {l : List AV}, AV.purL l = true → viewVs h l = some l
 | [], _ => rfl
 | a :: r, hp => by
  simp only [AV.purL, Bool.and_eq_true] at hp
  simp only [viewVs, viewV_p hp.1, viewVs_p hp.2]
theorem viewD_p {h : Heap} {a : AV} (hp : a.pur = true) : viewD h a = some a := by
 cases a with
 | agg l => simp only [viewD, viewVs_p (l := l) (by simpa [AV.pur] using hp), Option.map_some]
 | _ => exact viewV_p (h := h) hp
theorem bool_ne (a b : Bool) : binV Tryz.prog .neq 4 false (.bool a) (.bool b) = some (.bool (a != b)) := by
 have h : eqT Tryz.prog eqDepth 4 (.bool a) (.bool b) = some (a == b) := by
  unfold eqDepth
  rw [eqT.eq_def]
  simp only [Tryz.underlying4]
 simp only [binV, eqOp, eqV, h]
 rfl
end Go.AM
