/-
  A part of the proof: contracts of functions.
-/
import Derived.Test.YtkpbdjpekjdhcaaGreatDoorUAV
import Derived.Test.YtkpbdjpekjdhcaaGreatDoorUBK
import Derived.Test.YtkpbdjpekjdhcaaGreatDoorUBM
import Derived.Test.YtkpbdjpekjdhcaaGreatDoorUAU
set_option linter.unusedSectionVars false
set_option linter.unusedVariables false
set_option linter.unusedSimpArgs false
set_option maxRecDepth 100000
namespace Go.AM
open Go Go.Proofs
variable [Keep]
attribute [local irreducible] W WO WO1 WD WQ WT thenQ blockQ endR isRet retK Cl ClR
open Go.TX (Rm Fa Ha Hs)
attribute [local irreducible] houseB pathB airS failsH rosB rosR stafB keptR danL knG
noncomputable def c15 : Itr
 | 21 => some (pureFn sp21S)
 | 22 => some (pureFn sp22)
 | 23 => some (newQ sp23)
 | 24 => some (flatFnD sp82)
 | 52 => some (flatFnD sp52)
 | 61 => some (flatFnD sp61)
 | 84 => some (pureFn sp84)
 | 85 => some (pureFn sp85)
 | _ => none
theorem c15_sound (hT : TabK Tryz.prog) : Sound (dX c15) := dX_sound (fun f g h => by
 unfold c15 at h
 split at h
 ·cases h; exact F21S
 ·cases h; exact F22 hT
 ·cases h; exact F23
 ·cases h; exact F24D
 ·cases h; exact F52D
 ·cases h; exact F61D
 ·cases h; exact F84
 ·cases h; exact F85
 ·cases h)
theorem bltN_row {b id n sz : Nat} {h : Heap} {l : List AV} (q : BltN b h (.row id 0 n) sz l) : h.get id = some (.rw sz l) ∧ id < h.next := by
 rcases q with ⟨e, _⟩ | ⟨i, e, h2, _, h3, _⟩
 ·cases e
 ·cases e; exact ⟨h2, h3⟩
theorem ridx23 {h : Heap} {id n i : Nat} {l : List AV} (g : h.get id = some (.rw 2 l)) (hi : i < n) : indexAddrV Tryz.prog h 23 (.row id 0 n) (.int .i64 ↑i) = some (.eptr id 2 i 0) := by
 have : idxV (.int .i64 (i : Int)) n = some i := by simp [idxV, hi]
 simp only [indexAddrV, Tryz.underlying23, ty_lay103, this, g]
 simp
theorem ridx25 {h : Heap} {id n i : Nat} {l : List AV} (g : h.get id = some (.rw 2 l)) (hi : i < n) : indexAddrV Tryz.prog h 25 (.row id 0 n) (.int .i64 ↑i) = some (.eptr id 2 i 0) := by
 have : idxV (.int .i64 (i : Int)) n = some i := by simp [idxV, hi]
 simp only [indexAddrV, Tryz.underlying25, ty_lay106, this, g]
 simp
theorem safe_mono {a b : Int × Int} {l : Int} (h : b.1 ≤ a.1 ∧ b.2 ≤ a.2) : safeW a l ≤ safeW b l := by
 unfold safeW
 simp only [decide_eq_true_eq]
 split <;> split <;> (try split) <;> (try split) <;> omega
theorem hc15 : CxR c15 := ⟨rfl, rfl, rfl, rfl, rfl, rfl, rfl, rfl⟩
set_option maxHeartbeats 16000000 in
theorem T15t (e : Mp AV) (lm : Mp (Nat × List AV)) (hp : Heap) (ra fa oa ha dv : AV) (m : Hs) (nn : Nat) (hand limit : Int) (g : List (List Int)) (hA : HsA m ra fa oa ha) (hnn : m.hours = nn) (hb : houseB m = true) (hg : lisV dv = some g) (hli : inB limit 0 2000 = true)
  (c4 : e.get 4 = some dv) (c5 : e.get 5 = some (.int .i64 hand)) (c6 : e.get 6 = some (.int .i64 limit)) (c7 : e.get 7 = some (.lptr 7 0 0)) (d7 : lm.get 7 = some (0, [.int .i64 nn, ra, fa, oa, ha])) :
  W (dX c15) (codeFrom Tryz.f15 3) (Fr.mk 15 false e lm hp [] none) (endR (dX c15) 15 (isRet (.bool true))) := by
 have ho := house_ok hb
 have o1 := sl_out hA.r
 have o2 := sl_out hA.f
 have o3 := sl_out hA.o
 have o4 := sl_out hA.h
 have od := lis_out hg
 have lh := sl_len hA.h
 have k22 : ∀ h, Cl (dX c15) 22 [] h (.ret (.bool true) h none) := fun h => K22 rfl h
 have k54 := fun h => C54 hc15 rfl rfl m ra fa oa ha dv g hA hg ho h
 rw [← ros_same ho] at k54
 have tt : (true && true) = true := rfl
 have q0 : ((0 : Int) == 0) = true := rfl
 have HNN := Lib.hid hnn
 rw [hnn] at k54
 cases hr : rosB m g with
 | false =>
  rw [hr] at k54
  clear hA hnn hb hg hli ho hr
  repeat' (first | refine goS ?_ | (apply U6; exact Z1; exact Z1; (focus (simp only [List.nil_append, List.append_nil]; first | exact k54 _ | exact k22 _)); simp only [pM, pN, rR, rP]) | refine go2 (fun hh => ?_) (fun hh => ?_) | fail)
  all_goals (simp only [resV_def (X := dX c15) Tryz.func15, Tryz.results15]; first | exact J5 | refine J6 ?_)
  all_goals rfl
 | true =>
 rw [hr] at k54
 by_cases hneg : hand < 0
 ·have d1 : decide (hand < 0) = true := by simpa using hneg
  clear hA hnn hb hg hli ho hr hneg
  repeat' (first | refine goS ?_ | (apply U6; exact Z1; exact Z1; (focus (simp only [List.nil_append, List.append_nil]; first | exact k54 _ | exact k22 _)); simp only [pM, pN, rR, rP]) | refine go2 (fun hh => ?_) (fun hh => ?_) | fail)
  all_goals (simp only [resV_def (X := dX c15) Tryz.func15, Tryz.results15]; first | exact J5 | refine J6 ?_)
  all_goals rfl
 obtain ⟨i, rfl⟩ : ∃ i : Nat, hand = i := ⟨hand.toNat, by omega⟩
 have d1 : decide ((i : Int) < 0) = false := by simp
 by_cases hge : m.hands.length ≤ i
 ·have d2 : decide ((i : Int) ≥ (m.hands.length : Int)) = true := by simp only [decide_eq_true_eq]; omega
  clear hA hnn hb hg hli ho hr hneg hge
  repeat' (first | refine goS ?_ | (apply U6; exact Z1; exact Z1; (focus (simp only [List.nil_append, List.append_nil]; first | exact k54 _ | exact k22 _)); simp only [pM, pN, rR, rP]) | refine go2 (fun hh => ?_) (fun hh => ?_) | fail)
  all_goals (simp only [resV_def (X := dX c15) Tryz.func15, Tryz.results15]; first | exact J5 | refine J6 ?_)
  all_goals rfl
 have hltH : i < m.hands.length := by omega
 have d2 : decide ((i : Int) ≥ (m.hands.length : Int)) = false := by simp only [decide_eq_false_iff_not]; omega
 obtain ⟨x, hxi⟩ := get_some hltH
 have hix := fun H => has_idx hA.h hxi H
 have hxo := ho.hand x (List.mem_of_getElem? hxi)
 have hl := inB_iff.1 hli
 have hyx : x.limit ≤ maxV limit x.limit ∧ 0 ≤ maxV limit x.limit ∧ maxV limit x.limit ≤ 2000 := by rw [maxV_is]; omega
 have hneH : m.hands.map haC.enc ≠ [] := fun e => by
  have := congrArg List.length e
  rw [List.length_map, List.length_nil] at this
  omega
 have hhv : ha = .vslice (m.hands.map haC.enc) := by
  rcases (slV_is hA.h).1 with ⟨_, e⟩ | e
  ·exact absurd e hneH
  ·exact e
 have hb2 := upH_bool (li := 0) hxi hyx.2 hb
 have hst := fun h => upH_staf (m := m) hxi (l := maxV limit x.limit) hyx.1 (g := g) h
 have hro := upH_ros (m := m) (H := m.hands.set i ⟨maxV limit x.limit, x.most⟩) (by simp) g
 have hfe : (m.hands.map haC.enc).set i (asElem (isAggV (.agg [.int .i64 x.limit, .int .i64 x.most])) [.int .i64 (maxV limit x.limit), .int .i64 x.most]) = (m.hands.set i ⟨maxV limit x.limit, x.most⟩).map haC.enc := by rw [List.map_set]; rfl
 have hat : (m.hands.map haC.enc)[i]? = some (.agg [.int .i64 x.limit, .int .i64 x.most]) := by rw [List.getElem?_map, hxi]; rfl
 have hlH : (m.hands.set i ⟨maxV limit x.limit, x.most⟩).length = m.hands.length := by simp
 have HLH := Lib.hid (show 0 + m.hands.length ≤ most by have := ho.hands; unfold most; omega)
 have hxm : (m.hands.set i ⟨maxV limit x.limit, x.most⟩).length ≤ maxL := by rw [hlH]; have := ho.hands; unfold maxL; omega
 have e1 : stafV m g = .tuple [.bool (stafB m g), .int .i64 0] := by unfold stafV; rw [hb, hr]; rfl
 have e2 : stafV { m with hands := m.hands.set i ⟨maxV limit x.limit, x.most⟩ } g = .tuple [.bool (stafB { m with hands := m.hands.set i ⟨maxV limit x.limit, x.most⟩ } g), .int .i64 0] := by unfold stafV; rw [hb2, hro, hr]; rfl
 have k52 : ∀ h, Cl (dX c15) 52 [.agg [.int .i64 nn, ra, fa, oa, ha], dv] h (.ret (.tuple [.bool (stafB m g), .int .i64 0]) h none) := fun h => by
  have := K52D (X := dX c15) rfl (h := h) (ra := ra) (fa := fa) (oa := oa) (ha := ha) ⟨SeeV.of hA.r h, SeeV.of hA.f h, SeeV.of hA.o h, SeeV.of hA.h h⟩ hg
  rw [e1, hnn] at this
  exact this
 have hk52b : ∀ (h : Heap) (id : Nat), h.get id = some (.rw 2 ((m.hands.set i ⟨maxV limit x.limit, x.most⟩).map haC.enc)) → Cl (dX c15) 52 [.agg [.int .i64 nn, ra, fa, oa, .row id 0 m.hands.length], dv] h (.ret (.tuple [.bool (stafB { m with hands := m.hands.set i ⟨maxV limit x.limit, x.most⟩ } g), .int .i64 0]) h none) := fun h id hgt => by
  have := K52D (X := dX c15) rfl (HsD.hands hA (SeeV.row hgt hxm)) hg
  rw [hlH, e2] at this
  generalize stafB { m with hands := m.hands.set i ⟨maxV limit x.limit, x.most⟩ } g = s2 at this ⊢
  rw [hnn] at this
  exact this
 generalize stafB { m with hands := m.hands.set i ⟨maxV limit x.limit, x.most⟩ } g = s2 at *
 generalize m.hands.set i ⟨maxV limit x.limit, x.most⟩ = H at *
 generalize stafB m g = s1 at *
 have HFE := Lib.hid hfe
 have HK52b := Lib.hid hk52b
 have hb3 : (!s1 || s2) = true := by
  cases s1 with
  | false => rfl
  | true => rw [hst rfl]; rfl
 clear hA hnn hb hg hli ho hr hneg hge hxi hxo hl hyx hb2 hst hro hfe hlH hxm e1 e2 hk52b lh
 subst hhv
 have lh : lenS (.vslice (m.hands.map haC.enc)) = some m.hands.length := by simp [lenS]
 cases s1 with
 | false =>
  repeat' (first | (apply W.draw (id := 27) (lc := [0, 1, 2, 3, 4, 5, 6, 7, 8, 9, 10, 11, 12, 13]) (hot := []); kernel_rfl; kernel_rfl; kernel_rfl; exact Z4) | (apply WD.cons (o := ⟨some 256, _, _, _, _, none⟩); exact rfl; exact rfl) | (apply WD.cons (o := ⟨some 257, _, _, _, _, none⟩); exact rfl; exact rfl) | (apply WD.cons (o := ⟨some 258, _, _, _, _, none⟩); exact rfl; exact rfl) | (apply WD.cons (o := ⟨some 259, _, _, _, _, none⟩); exact rfl; exact rfl) | (apply WD.cons (o := ⟨some 260, _, _, _, _, none⟩); exact rfl; exact rfl) | (apply WD.cons (o := ⟨none, .store 3 (.tmp 260) (.tmp 258), _, _, _, none⟩); exact rfl; exact rfl) | (refine WD.cons rfl rfl ?_) | (refine WD.nil ⟨?_, ?_⟩; rotate_left; simp only [tN, bN, eN, true_and]) | (refine calmR rfl rfl rfl rfl rfl ?_ ?_; (focus (first | exact Z2 | exact Z1))) | (refine calmE rfl rfl rfl rfl rfl ?_ ?_; (focus (first | exact Z2 | exact Z1))) | (with_reducible refine calmEnd) | (apply WO1.appendX (t := 25) (u := 25) (e := 106) (e' := 106) (sz := 2) (tl := []) (l := []) (new := m.hands.map haC.enc) (b := 0) (h0 := ⟨0, .nil⟩) (hb := BltN.nil) (hx := ⟨Nat.zero_le _, fun id h => absurd h (Nat.not_lt_zero id)⟩); exact Z1; exact rfl; exact Z2; exact Z2; exact Z2; (focus (exact ty_row25)); (focus (first | exact Z2 | exact Z1 | exact rfl)); (focus (intro v hv; obtain ⟨p, _, rfl⟩ := List.mem_map.1 hv; rfl)); (focus (simp only [List.length_map, List.length_nil]; exact HLH.out)); (focus (exact hneH)); (intro v2 hp2 hB2 ho2 hK2 hE2 hX2; simp only [List.nil_append, List.length_map] at hE2; simp only [List.nil_append] at hB2; subst hE2; obtain ⟨g2, hid2⟩ := bltN_row hB2; have HID2 := Lib.hid hid2; clear hK2 hB2 hX2 hid2; have hri2 := ridx25 g2 hltH; obtain ⟨qn2, qm2⟩ := hp2; simp only [hp_get] at g2; simp only [pM, pN])) | refine go1 ?_ | (apply U6; exact Z1; exact Z1; (focus (simp only [List.nil_append, List.append_nil]; first | exact k54 _ | exact k52 _ | exact HK52b.out _ _ (by simp only [hp_get, get_set_same, HFE.out]) | exact k22 _)); simp only [pM, pN, rR, rP]) | refine go2 (fun hh => ?_) (fun hh => ?_) | fail)
  all_goals (simp only [resV_def (X := dX c15) Tryz.func15, Tryz.results15]; first | exact J5 | refine J6 ?_)
  all_goals rfl
 | true =>
  simp only [Bool.not_true, Bool.false_or] at hb3
  subst hb3
  repeat' (first | (apply W.draw (id := 27) (lc := [0, 1, 2, 3, 4, 5, 6, 7, 8, 9, 10, 11, 12, 13]) (hot := []); kernel_rfl; kernel_rfl; kernel_rfl; exact Z4) | (apply WD.cons (o := ⟨some 256, _, _, _, _, none⟩); exact rfl; exact rfl) | (apply WD.cons (o := ⟨some 257, _, _, _, _, none⟩); exact rfl; exact rfl) | (apply WD.cons (o := ⟨some 258, _, _, _, _, none⟩); exact rfl; exact rfl) | (apply WD.cons (o := ⟨some 259, _, _, _, _, none⟩); exact rfl; exact rfl) | (apply WD.cons (o := ⟨some 260, _, _, _, _, none⟩); exact rfl; exact rfl) | (apply WD.cons (o := ⟨none, .store 3 (.tmp 260) (.tmp 258), _, _, _, none⟩); exact rfl; exact rfl) | (refine WD.cons rfl rfl ?_) | (refine WD.nil ⟨?_, ?_⟩; rotate_left; simp only [tN, bN, eN, true_and]) | (refine calmR rfl rfl rfl rfl rfl ?_ ?_; (focus (first | exact Z2 | exact Z1))) | (refine calmE rfl rfl rfl rfl rfl ?_ ?_; (focus (first | exact Z2 | exact Z1))) | (with_reducible refine calmEnd) | (apply WO1.appendX (t := 25) (u := 25) (e := 106) (e' := 106) (sz := 2) (tl := []) (l := []) (new := m.hands.map haC.enc) (b := 0) (h0 := ⟨0, .nil⟩) (hb := BltN.nil) (hx := ⟨Nat.zero_le _, fun id h => absurd h (Nat.not_lt_zero id)⟩); exact Z1; exact rfl; exact Z2; exact Z2; exact Z2; (focus (exact ty_row25)); (focus (first | exact Z2 | exact Z1 | exact rfl)); (focus (intro v hv; obtain ⟨p, _, rfl⟩ := List.mem_map.1 hv; rfl)); (focus (simp only [List.length_map, List.length_nil]; exact HLH.out)); (focus (exact hneH)); (intro v2 hp2 hB2 ho2 hK2 hE2 hX2; simp only [List.nil_append, List.length_map] at hE2; simp only [List.nil_append] at hB2; subst hE2; obtain ⟨g2, hid2⟩ := bltN_row hB2; have HID2 := Lib.hid hid2; clear hK2 hB2 hX2 hid2; have hri2 := ridx25 g2 hltH; obtain ⟨qn2, qm2⟩ := hp2; simp only [hp_get] at g2; simp only [pM, pN])) | refine go1 ?_ | (apply U6; exact Z1; exact Z1; (focus (simp only [List.nil_append, List.append_nil]; first | exact k54 _ | exact k52 _ | exact HK52b.out _ _ (by simp only [hp_get, get_set_same, HFE.out]) | exact k22 _)); simp only [pM, pN, rR, rP]) | refine go2 (fun hh => ?_) (fun hh => ?_) | fail)
  all_goals (simp only [resV_def (X := dX c15) Tryz.func15, Tryz.results15]; first | exact J5 | refine J6 ?_)
  all_goals rfl
end Go.AM
