/-
  A part of the proof: contracts of functions.
-/
import Derived.Test.YtkpbdjpekjdhcaaGreatDoorXAW
import Derived.Test.YtkpbdjpekjdhcaaGreatDoorXAU
import Derived.Test.YtkpbdjpekjdhcaaGreatDoorXAT
set_option linter.unusedSectionVars false
set_option linter.unusedVariables false
set_option linter.unusedSimpArgs false
set_option maxRecDepth 100000
namespace Go.AM
open Go Go.Proofs
variable [Keep]
attribute [local irreducible] W WO WO1 WD WQ WT thenQ blockQ endR isRet retK Cl ClR
open Go.TX (Rm Fa Ha Hs)
attribute [local irreducible] runsB madeR madeF drawnP sumW
theorem all_at {α : Type} {p : α -> Bool} {l : List α} {k : Nat} {x : α} (h : l[k]? = some x) (ha : (l.take k).all p = true) : (l.take (k + 1)).all p = p x := by rw [take_next h, List.all_append, ha]; simp
section
variable {c : Itr}
end
end Go.AM
namespace Go.AM
open Go Go.Proofs
variable [Keep]
attribute [local irreducible] W WO WO1 WD WQ WT thenQ blockQ endR isRet retK Cl ClR
open Go.TX (Rm Fa Ha Hs)
attribute [local irreducible] runsB madeR madeF drawnP sumW rowF nowF
theorem lisL_rows : ∀ (g : List (List Int)), (∀ l ∈ g, l.length <= maxL) -> lisL (rowsE g) = some g
 | [], _ => rfl
 | l :: g, h => by
  have h1 : slV intC (slN (intsE l)) = some l := ints_sl l (h l (by simp))
  have h2 := lisL_rows g fun x hx => h x (by simp [hx])
  simp only [rowsE, List.map_cons] at h2 ⊢
  simp only [lisL, h1, h2]
theorem rows_lis {g : List (List Int)} (h : g.length <= maxL) (hm : ∀ l ∈ g, l.length <= maxL) : lisV (slN (rowsE g)) = some g := by
 have h1 := lisL_rows g hm
 cases g with
 | nil => rfl
 | cons a r =>
  show lisV (.vslice (rowsE (a :: r))) = _
  unfold lisV
  simp only
  rw [if_pos (by rw [rowsE_len]; exact h), h1]
theorem Blt.toN {h : Heap} {v : AV} {sz : Nat} {l : List AV} (q : Blt h v sz l) : BltN 0 h v sz l := by
 rcases q with q | ⟨id, h1, h2, h3, h4⟩
 ·exact .inl q
 ·exact .inr ⟨id, h1, h2, Nat.zero_le _, h3, h4⟩
theorem row_next (m : Hs) (f : Fl) (r : Nat) (md : Nat -> Int) (k : Nat) : rowF m f r md (k + 1) = rowF m f r md k ++ [nowF m f r md (k + 1)] := by conv => lhs; unfold rowF
theorem now_next (m : Hs) (f : Fl) (r : Nat) (md : Nat -> Int) (k : Nat) : nowF m f r md (k + 1) = maxV 0 (w64 ((if runsB m f r k = true then w64 (nowF m f r md k + md k) else nowF m f r md k) - sumW (drawnP m f r k m.fans.length))) := by conv => lhs; unfold nowF
theorem now_zero (m : Hs) (f : Fl) (r : Nat) (md : Nat -> Int) : nowF m f r md 0 = (m.rooms.getD r rm0).stt := by unfold nowF; rfl
theorem row_zero (m : Hs) (f : Fl) (r : Nat) (md : Nat -> Int) : rowF m f r md 0 = [] := by unfold rowF; rfl
end Go.AM
