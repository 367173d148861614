/-
  A part of the proof: contracts of functions.
-/
import Derived.Test.YtkpbdjpekjdhcaaGreatDoorTBD
import Derived.Test.YtkpbdjpekjdhcaaGreatDoorTBB
import Derived.Test.YtkpbdjpekjdhcaaGreatDoorTBG
import Derived.Test.YtkpbdjpekjdhcaaGreatDoorTAY
import Derived.Test.YtkpbdjpekjdhcaaGreatDoorTBK
set_option linter.unusedSectionVars false
set_option linter.unusedVariables false
set_option linter.unusedSimpArgs false
set_option maxRecDepth 100000
namespace Go.AM
open Go Go.Proofs
variable [Keep]
attribute [local irreducible] W WO WO1 WD WQ WT thenQ blockQ endR isRet retK Cl ClR
open Go.TX (Rm Fa Ha Hs)
structure HsD (h : Heap) (m : Hs) (ra fa oa ha : AV) : Prop where
 r : SeeV h rmC ra m.rooms
 f : SeeV h faC fa m.fans
 o : SeeV h intC oa m.op
 h : SeeV h haC ha m.hands
theorem HsD.fans {h : Heap} {m : Hs} {ra fa oa ha : AV} (hm : HsA m ra fa oa ha) {F : List Fa} {b : AV} (hb : SeeV h faC b F) : HsD h { m with fans := F } ra b oa ha := ⟨SeeV.of hm.r h, hb, SeeV.of hm.o h, SeeV.of hm.h h⟩
theorem HsD.hands {h : Heap} {m : Hs} {ra fa oa ha : AV} (hm : HsA m ra fa oa ha) {H : List Ha} {b : AV} (hb : SeeV h haC b H) : HsD h { m with hands := H } ra fa oa b := ⟨SeeV.of hm.r h, SeeV.of hm.f h, SeeV.of hm.o h, hb⟩
theorem SeeV.row {α : Type} {c : Cd α} {h : Heap} {id sz : Nat} {l : List α} (hg : h.get id = some (.rw sz (l.map c.enc))) (hn : l.length ≤ maxL) : SeeV h c (.row id 0 l.length) l := by
 refine ⟨.vslice (l.map c.enc), ?_, slV_mk (.inr rfl) hn⟩
 have hp : AV.purL (l.map c.enc) = true := by
  clear hg hn
  induction l with
  | nil => rfl
  | cons a l ih =>
   simp only [List.map_cons, AV.purL, Bool.and_eq_true]
   exact ⟨enc_pur c [a] _ (by simp), ih⟩
 have h1 : (l.map c.enc).take l.length = l.map c.enc := List.take_of_length_le (by simp)
 simp only [viewV, hg, List.length_map, Nat.zero_add, Nat.le_refl, if_true, List.drop_zero, h1, hp]
end Go.AM
