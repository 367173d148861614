/-
  A part of the proof: contracts of functions.
-/
import Derived.Test.YtlhcjccaimmhgaaGreatDoorPAU
import Derived.Test.YtlhcjccaimmhgaaGreatDoorPAT
import Derived.Test.YtlhcjccaimmhgaaGreatDoorPAM
import Derived.Test.YtlhcjccaimmhgaaGreatDoorPAN
import Derived.Test.YtlhcjccaimmhgaaGreatDoorPAQ
set_option linter.unusedSectionVars false
set_option linter.unusedVariables false
set_option linter.unusedSimpArgs false
set_option maxRecDepth 100000
namespace Go.AM
open Go Go.Proofs
variable [Keep]
attribute [local irreducible] W WO WO1 WD WQ WT thenQ blockQ endR isRet retK Cl ClR
attribute [local irreducible] matchS boundsS machB measB sureW gaugeN boxL heldI askOk couldN canB butB sureAt
noncomputable def c13 : Itr
 | 38 => some (pureFn sp38)
 | 40 => some (flatFnD sp40)
 | 43 => some (flatFnD sp43)
 | 44 => some (pureFn sp44)
 | 46 => some (flatFnD sp46)
 | 51 => some (pureFn sp162)
 | 54 => some (pureFn sp54)
 | 62 => some (pureFn sp62)
 | 63 => some (newFn 1 sp63)
 | 64 => some (flatFn sp64)
 | f => c25 cK f
theorem seven (c1 c2 c3 c4 c5 c6 c7 : Bool) (h : ¬ (c1 = false ∧ c2 = false ∧ c3 = false ∧ c4 = false ∧ c5 = false ∧ c6 = false ∧ c7 = false)) : c1 = true ∨ (c1 = false ∧ c2 = true) ∨ (c1 = false ∧ c2 = false ∧ c3 = true) ∨ (c1 = false ∧ c2 = false ∧ c3 = false ∧ c4 = true) ∨ (c1 = false ∧ c2 = false ∧ c3 = false ∧ c4 = false ∧ c5 = true) ∨ (c1 = false ∧ c2 = false ∧ c3 = false ∧ c4 = false ∧ c5 = false ∧ c6 = true) ∨ (c1 = false ∧ c2 = false ∧ c3 = false ∧ c4 = false ∧ c5 = false ∧ c6 = false ∧ c7 = true) := by
 cases c1
 ·cases c2
  ·cases c3
   ·cases c4
    ·cases c5
     ·cases c6
      ·cases c7
       ·exact absurd ⟨rfl, rfl, rfl, rfl, rfl, rfl, rfl⟩ h
       ·exact .inr (.inr (.inr (.inr (.inr (.inr ⟨rfl, rfl, rfl, rfl, rfl, rfl, rfl⟩)))))
      ·exact .inr (.inr (.inr (.inr (.inr (.inl ⟨rfl, rfl, rfl, rfl, rfl, rfl⟩)))))
     ·exact .inr (.inr (.inr (.inr (.inl ⟨rfl, rfl, rfl, rfl, rfl⟩))))
    ·exact .inr (.inr (.inr (.inl ⟨rfl, rfl, rfl, rfl⟩)))
   ·exact .inr (.inr (.inl ⟨rfl, rfl, rfl⟩))
  ·exact .inr (.inl ⟨rfl, rfl⟩)
 ·exact .inl rfl
theorem meas_more {hs : List Pt} {off off' : Int} (h : measB hs off = true) (h0 : 0 ≤ off') (h6 : off' ≤ 6) : measB hs off' = true := by
 unfold measB at h ⊢
 simp only [Bool.and_eq_true] at h ⊢
 exact ⟨h.1, by simp only [inB, Bool.and_eq_true, decide_eq_true_eq]; omega⟩
theorem able_yes {m : Bool} {A B : Option (List Sp)} (h : (ableI m (A.isSome && B.isSome) != 0) = false) : m = true ∧ (∃ a, A = some a) ∧ ∃ b, B = some b := by
 cases m
 ·simp [ableI] at h
 ·cases A
  ·simp [ableI] at h
  ·cases B
   ·simp [ableI] at h
   ·exact ⟨rfl, ⟨_, rfl⟩, ⟨_, rfl⟩⟩
theorem sureAt_def (G : Pt → Bool) (a b : List Sp) (n : Nat) : sureAt G a b n = sureW G (a.getD n ⟨0, 0⟩) (b.getD n ⟨0, 0⟩) := by unfold sureAt; rfl
section
variable {st hs : List Pt} {cx cy wx wy cx' cy' wx' wy' : Sp} {rs rs' : List Rdg} {off off' : Int} {a b a' b' : List Sp}
theorem more_law (h : machB st cx cy wx wy rs = true) (h' : machB st cx' cy' wx' wy' rs' = true) (s : (subS cx' cx ∧ subS cy' cy) ∧ subS wx' wx ∧ subS wy' wy) (hr : ∀ r ∈ rs, r ∈ rs') (hA : boundsS (ax0 cx wx rs []) = some a) (hB : boundsS (ax1 cy wy rs []) = some b) (hA' : boundsS (ax0 cx' wx' rs' []) = some a') (hB' : boundsS (ax1 cy' wy' rs' []) = some b') (h0 : 0 ≤ off) (hle : off ≤ off') (h6 : off' ≤ 6) :
  gaugeN (sureAt (goodB off hs st) a b) ≤ gaugeN (sureAt (goodB off' hs st) a' b') ∧ ∀ k, k ≤ 12 → sureAt (goodB off hs st) a b k = 3 → sureAt (goodB off' hs st) a' b' k = 3 := by
 obtain ⟨k1, k2⟩ := held_mono h h' s hr (ms := []) (fun m q => by cases q)
 obtain ⟨t1, e1, q1⟩ := k1 a' hA'
 obtain ⟨t2, e2, q2⟩ := k2 b' hB'
 rw [hA] at e1
 rw [hB] at e2
 have e1 := Option.some.inj e1
 have e2 := Option.some.inj e2
 subst e1
 subst e2
 have key : ∀ k, k ≤ 12 → sureAt (goodB off hs st) a b k = 3 → sureAt (goodB off' hs st) a' b' k = 3 := fun k hk => sure_more h0 hle h6 (q1 k hk) (q2 k hk)
 exact ⟨gauge_more fun k _ hk => key k hk, key⟩
theorem all_law {bs : List Pt} {err : Int} (h : machB st cx cy wx wy rs = true) (h' : machB st cx' cy' wx' wy' rs' = true) (s : (subS cx' cx ∧ subS cy' cy) ∧ subS wx' wx ∧ subS wy' wy) (hr : ∀ r ∈ rs, r ∈ rs') (hs : suitB (machB st cx cy wx wy rs) st bs err = true) :
  ((couldN (fun n => (boxL err st bs).any (canB cx' cy' wx' wy' rs' n)) 12).map fun k : Nat => (k : Int)).all (hasB ((couldN (fun n => (boxL err st bs).any (canB cx cy wx wy rs n)) 12).map fun k : Nat => (k : Int))) = true := by
 obtain ⟨p1, p2, p3, p4, p5⟩ := suit_pts hs
 rw [List.all_eq_true]
 intro x hx
 obtain ⟨n, hn, rfl⟩ := List.mem_map.1 hx
 obtain ⟨n1, n2, n3⟩ := could_in hn
 have hlen := couldN_len (fun n => (boxL err st bs).any (canB cx cy wx wy rs n)) 12
 refine has_mem (by omega) (could_mem n1 n2 ?_)
 rw [List.any_eq_true] at n3 ⊢
 obtain ⟨y, hy, q⟩ := n3
 exact ⟨y, hy, can_mono h h' s hr n2 (boxL_bd p1 p2 p3 p4 p5 y hy).1 q⟩
theorem clos_mach {up down : Int} (h : machB st cx cy wx wy rs = true) (h1 : 0 ≤ up) (h2 : up ≤ 6) (h3 : 0 ≤ down) (h4 : down ≤ 6) : (subS (closS cx up down) cx ∧ subS (closS cy up down) cy) ∧ subS (closS wx up down) wx ∧ subS (closS wy up down) wy := by
 obtain ⟨a1, a2, a3, b1, b2, b3, _⟩ := good_x h
 obtain ⟨c1, c2, c3, d1, d2, d3, _⟩ := good_y h
 exact ⟨⟨clos_sub ⟨by omega, by omega, by omega⟩ h1 h2 h3 h4, clos_sub ⟨by omega, by omega, by omega⟩ h1 h2 h3 h4⟩, clos_sub ⟨by omega, by omega, by omega⟩ h1 h2 h3 h4, clos_sub ⟨by omega, by omega, by omega⟩ h1 h2 h3 h4⟩
end
set_option maxHeartbeats 16000000 in
theorem T13 (ca sa ra ha : AV) (off more up down rb rx ry re err blank : Int) (cx cy wx wy : Sp) (hs st bs : List Pt) (rs : List Rdg) (hc : isSl ca (hs.map ptC.enc)) (hl : isSl sa (st.map ptC.enc)) (hr : isSl ra (rs.map rdgC.enc)) (hh : isSl ha (bs.map ptC.enc)) :
  ClR (dX c13) 13 [.agg [ca, .int .i64 off], .agg [sa, .int .i64 cx.lo, .int .i64 cx.hi, .int .i64 cy.lo, .int .i64 cy.hi, .int .i64 wx.lo, .int .i64 wx.hi, .int .i64 wy.lo, .int .i64 wy.hi, ra], .int .i64 more, .int .i64 up, .int .i64 down, .agg [.int .i64 rb, .int .i64 rx, .int .i64 ry, .int .i64 re], .agg [ha, .int .i64 err], .int .i64 blank] emptyHp (isRet (.bool true)) := by
 have o1 := hc.out
 have o2 := hl.out
 have o3 := hr.out
 have o4 := hh.out
 have t1 := hc.tup
 have t2 := hl.tup
 have t3 := hr.tup
 have t4 := hh.tup
 simp only [isTuple] at t1 t2 t3 t4
 have on : ∀ {a : AV} {es : List AV}, isSl a es → a.one = true := fun h => by rcases h with ⟨rfl | rfl, _⟩ | rfl <;> rfl
 have n1 := on hc
 have n2 := on hl
 have n3 := on hr
 have n4 := on hh
 have hp1 := hl.pur (enc_pur ptC st)
 have hp2 := hr.pur (enc_pur rdgC rs)
 have ln1 : lenS ca = some hs.length := by rw [hc.len, List.length_map]
 have ln2 : lenS sa = some st.length := by rw [hl.len, List.length_map]
 have ln4 : lenS ha = some bs.length := by rw [hh.len, List.length_map]
 have c3 : ra.cells = [ra] := hr.cells
 simp only [AV.cells] at c3
 have k25 : ∀ h, Cl (dX c13) 25 [] h (.ret (.bool true) h none) := fun h => K25 rfl h
 have k38 : ∀ h, Cl (dX c13) 38 [.agg [sa, .int .i64 cx.lo, .int .i64 cx.hi, .int .i64 cy.lo, .int .i64 cy.hi, .int .i64 wx.lo, .int .i64 wx.hi, .int .i64 wy.lo, .int .i64 wy.hi, ra]] h (.ret (.bool (decide ((st.length : Int) ≤ 6) && decide ((rs.length : Int) ≤ 6))) h none) := fun h => by
  have h1 := slLen_mk hl
  have h2 := slLen_mk hr
  exact Cl.intr (g := pureFn sp38) rfl (by simp [pureFn, AV.pur, AV.purL, hp1, hp2, sp38, h1, h2])
 have k54 := fun h => K54 (X := dX c13) rfl ha _ err hh (enc_pur ptC bs) h
 rw [List.length_map] at k54
 by_cases gs : (decide ((st.length : Int) ≤ 6) && decide ((rs.length : Int) ≤ 6)) = true ∧ decide ((hs.length : Int) > 6) = false ∧ decide ((bs.length : Int) ≤ 6) = true
 ·obtain ⟨ga, gb, gc⟩ := gs
  rw [ga] at k38
  rw [gc] at k54
  have gb' := gb
  have gc' := gc
  simp only [Bool.and_eq_true, decide_eq_true_eq] at ga gc'
  simp only [decide_eq_false_iff_not] at gb'
  have v1 : slV ptC ca = some hs := slV_mk hc (by unfold maxL; omega)
  have v2 : slV ptC sa = some st := slV_mk hl (by unfold maxL; omega)
  have v3 : slV rdgC ra = some rs := slV_mk hr (by unfold maxL; omega)
  have v4 : slV ptC ha = some bs := slV_mk hh (by unfold maxL; omega)
  have k44 : ∀ h, Cl (dX c13) 44 [.agg [ca, .int .i64 off], .agg [sa, .int .i64 cx.lo, .int .i64 cx.hi, .int .i64 cy.lo, .int .i64 cy.hi, .int .i64 wx.lo, .int .i64 wx.hi, .int .i64 wy.lo, .int .i64 wy.hi, ra], .int .i64 blank, .int .i64 1] h (.ret (.int .i64 (heldI hs st off (machB st cx cy wx wy rs) ((boundsS (ax0 cx wx rs [])).isSome && (boundsS (ax1 cy wy rs [])).isSome) (inB blank 1 12))) h none) := fun h => Cl.intr (g := pureFn sp44) rfl (by simp [pureFn, AV.pur, AV.purL, sl_pur v1, hp1, hp2, sp44, v1, v2, v3])
  rw [held_ask] at k44
  have hhe : (if askOk hs st off (machB st cx cy wx wy rs) (inB blank 1 12) = true then (if ((boundsS (ax0 cx wx rs [])).isSome && (boundsS (ax1 cy wy rs [])).isSome) = true then (0 : Int) else 7) else 2) = 0 ↔ (askOk hs st off (machB st cx cy wx wy rs) (inB blank 1 12) = true ∧ (boundsS (ax0 cx wx rs [])).isSome = true ∧ (boundsS (ax1 cy wy rs [])).isSome = true) := by
   cases askOk hs st off (machB st cx cy wx wy rs) (inB blank 1 12) <;> cases (boundsS (ax0 cx wx rs [])).isSome <;> cases (boundsS (ax1 cy wy rs [])).isSome <;> simp
  have b00 : ((0 : Int) != 0) = false := rfl
  have e00 : ((0 : Int) == 0) = true := rfl
  have b33 : ((3 : Int) != 3) = false := rfl
  have tt : (true && true) = true := rfl
  generalize hheq : (if askOk hs st off (machB st cx cy wx wy rs) (inB blank 1 12) = true then (if ((boundsS (ax0 cx wx rs [])).isSome && (boundsS (ax1 cy wy rs [])).isSome) = true then (0 : Int) else 7) else 2) = he at *
  by_cases hall : (he != 0) = false ∧ decide (more < 0) = false ∧ decide (more > 6) = false ∧ decide (up < 0) = false ∧ decide (up > 6) = false ∧ decide (down < 0) = false ∧ decide (down > 6) = false
  ·obtain ⟨m1, m2, m3, m4, m5, m6, m7⟩ := hall
   have hz : he = 0 := by simpa using m1
   subst hz
   obtain ⟨q1, q2, q3⟩ := hhe.1 rfl
   have u2 := m2
   have u3 := m3
   have u4 := m4
   have u5 := m5
   have u6 := m6
   have u7 := m7
   simp only [decide_eq_false_iff_not] at u2 u3 u4 u5 u6 u7
   obtain ⟨a, hA⟩ := Option.isSome_iff_exists.1 q2
   obtain ⟨b, hB⟩ := Option.isSome_iff_exists.1 q3
   have hask := q1
   unfold askOk at hask
   simp only [Bool.and_eq_true, decide_eq_true_eq] at hask
   obtain ⟨⟨⟨hme, hma⟩, hnn⟩, hin⟩ := hask
   have hlh := (mach_small hma).1
   have hrs4 := (mach_small hma).2.2
   obtain ⟨_, hof0, hof6⟩ := meas_ok hme
   obtain ⟨n, rfl, hn1, hn12⟩ : ∃ n : Nat, blank = n ∧ 1 ≤ n ∧ n ≤ 12 := by
    simp only [inB, Bool.and_eq_true, decide_eq_true_eq] at hin
    exact ⟨blank.toNat, by omega, by omega, by omega⟩
   have hask1 : askOk hs st off (machB st cx cy wx wy rs) true = true := by
    rw [hin] at q1
    exact q1
   have hsub := clos_mach hma (up := up) (down := down) (by omega) (by omega) (by omega) (by omega)
   have wo : IntKind.i64.wrap (off + more) = off + more := wrap_small (by omega) (by omega)
   have wo2 : minV 6 (off + more) = min 6 (off + more) := min_min _ _
   obtain ⟨off', hoff'⟩ : ∃ off', minV 6 (off + more) = off' := ⟨_, rfl⟩
   have hle : off ≤ off' ∧ off' ≤ 6 := by omega
   have hme' : measB hs off' = true := meas_more hme (by omega) hle.2
   have k62a := fun h => K62 (X := dX c13) rfl cx up down h
   have k62b := fun h => K62 (X := dX c13) rfl cy up down h
   have k62c := fun h => K62 (X := dX c13) rfl wx up down h
   have k62d := fun h => K62 (X := dX c13) rfl wy up down h
   generalize closS cx up down = cx' at *
   generalize closS cy up down = cy' at *
   generalize closS wx up down = wx' at *
   generalize closS wy up down = wy' at *
   have k51 := fun h => K51 (X := dX c13) rfl ha bs err v4 h
   have hle2 : ((bs.length : Int) != (st.length : Int)) = !decide (bs.length = st.length) := by
    rw [Bool.eq_iff_iff]
    simp
    omega
   have HK46 := Lib.hid (fun (h : Heap) => K46D (X := dX c13) sa ra ca st hs rs cx cy wx wy off h rfl (.of v1 h) (.of v2 h) (.of v3 h))
   have HK43 := Lib.hid (fun (h : Heap) => K43D (X := dX c13) sa ra ca st hs rs cx cy wx wy off ((n : Nat) : Int) h rfl (.of v1 h) (.of v2 h) (.of v3 h))
   have HX40 := Lib.hid (fun (h : Heap) (rv : AV) (rl : List Rdg) (s : SeeV h rdgC rv rl) => K40D (X := dX c13) sa rv st rl cx' cy' wx' wy' h rfl (.of v2 h) s)
   have HX46 := Lib.hid (fun (h : Heap) (rv : AV) (rl : List Rdg) (s : SeeV h rdgC rv rl) => K46D (X := dX c13) sa rv ca st hs rl cx' cy' wx' wy' off' h rfl (.of v1 h) (.of v2 h) s)
   have HX43 := Lib.hid (fun (h : Heap) (rv : AV) (rl : List Rdg) (s : SeeV h rdgC rv rl) => K43D (X := dX c13) sa rv ca st hs rl cx' cy' wx' wy' off' ((n : Nat) : Int) h rfl (.of v1 h) (.of v2 h) s)
   have HK63 := Lib.hid (fun (h : Heap) => K63 (X := dX c13) rfl sa ra ha st bs rs cx cy wx wy err h (.of v2 h) (.of v3 h) (.of v4 h))
   have HX63 := Lib.hid (fun (h : Heap) (rv : AV) (rl : List Rdg) (s : SeeV h rdgC rv rl) => K63 (X := dX c13) rfl sa rv ha st bs rl cx' cy' wx' wy' err h (.of v2 h) s (.of v4 h))
   have HV3 := Lib.hid v3
   have hel : Heap.elems ⟨0, .nil⟩ ra = some (rs.map rdgC.enc) := (slV_is v3).1.elems _
   have hsz : ∀ v ∈ rs.map rdgC.enc, v.cells.length = 4 := fun v hv => by
    obtain ⟨k, _, rfl⟩ := List.mem_map.1 hv
    rfl
   have hlen : (rs.map rdgC.enc).length ≤ most := by rw [List.length_map]; unfold most; omega
   have hll : (rs.map rdgC.enc).length + (0 + 1) ≤ most := by rw [List.length_map]; unfold most; omega
   have HF := Lib.hid (show machB st cx cy wx wy rs = true ∧ boundsS (ax0 cx wx rs []) = some a ∧ boundsS (ax1 cy wy rs []) = some b ∧ measB hs off = true ∧ measB hs off' = true ∧ st.length = hs.length ∧ inB ((n : Nat) : Int) 1 12 = true from ⟨hma, hA, hB, hme, hme', hnn, hin⟩)
   have HG := Lib.hid (show ((subS cx' cx ∧ subS cy' cy) ∧ subS wx' wx ∧ subS wy' wy) ∧ 0 ≤ off ∧ off ≤ off' ∧ off' ≤ 6 ∧ n ≤ 12 ∧ rs.length ≤ 4 from ⟨hsub, hof0, hle.1, hle.2, hn12, hrs4⟩)
   have HHE := Lib.hid hheq
   clear hc hl hr hh hp1 hp2 v1 v2 v3 v4 ga gb' gc' u2 u3 u4 u5 u6 u7 hhe q1 q2 q3 hA hB hme hma hnn hin hlh hrs4 hof0 hof6 hn1 hn12 hask1 hsub wo2 hle hme' hheq m1
   refine ClR.walk (c := _) rfl Tryz.func13 rfl (by kernel_rfl) rfl isRet_fail ?_
   simp only [entryEnv, Nat.reduceAdd, emptyHp]
   repeat' (first | (apply W.draw (id := 3) (lc := [2, 3, 0, 1, 4, 5]) (hot := [(1, 4)]); kernel_rfl; kernel_rfl; kernel_rfl; exact Z4) | (apply WD.alloc (o := ⟨some 17, .alloc 33, 0, _, _, none⟩); exact rfl; exact rfl; exact Z1; simp only [pM, pN]) | (apply WD.alloc (o := ⟨some 18, .alloc 51, 0, _, _, none⟩); exact rfl; exact rfl; exact Z1; simp only [pM, pN]) | (refine WD.cons rfl rfl ?_) | (refine WD.nil ⟨?_, ?_⟩; rotate_left; simp only [tN, bN, eN, true_and]) | (refine calmR rfl rfl rfl rfl rfl ?_ ?_; (focus (first | exact Z2 | exact Z1))) | (refine calmE rfl rfl rfl rfl rfl ?_ ?_; (focus (first | exact Z2 | exact Z1))) | (with_reducible refine calmEnd) | (apply W.draw (id := 5) (lc := [0, 1, 2, 3, 4, 5, 6, 7, 8, 9, 10, 11, 12, 13, 14, 15, 16, 17, 18, 19, 20, 21, 22, 23, 24, 25, 26, 27]) (hot := [(4, 6), (4, 11), (4, 16), (9, 11), (9, 16), (14, 16)]); kernel_rfl; kernel_rfl; kernel_rfl; exact Z4) | (apply WD.cons (o := ⟨some 93, _, _, _, _, none⟩); exact rfl; exact rfl) | (apply WD.cons (o := ⟨some 94, _, _, _, _, none⟩); exact rfl; exact rfl) | (apply WD.cons (o := ⟨some 95, _, _, _, _, none⟩); exact rfl; exact rfl) | (apply WD.cons (o := ⟨some 96, _, _, _, _, none⟩); exact rfl; exact rfl) | (apply WD.cons (o := ⟨some 97, _, _, _, _, none⟩); exact rfl; exact rfl) | (apply WD.cons (o := ⟨some 98, _, _, _, _, none⟩); exact rfl; exact rfl) | (apply WD.cons (o := ⟨some 99, _, _, _, _, none⟩); exact rfl; exact rfl) | (apply WD.cons (o := ⟨some 100, _, _, _, _, none⟩); exact rfl; exact rfl) | (apply WD.cons (o := ⟨some 101, _, _, _, _, none⟩); exact rfl; exact rfl) | (apply WD.cons (o := ⟨some 102, _, _, _, _, none⟩); exact rfl; exact rfl) | (apply WD.cons (o := ⟨some 103, _, _, _, _, none⟩); exact rfl; exact rfl) | (apply WD.cons (o := ⟨some 104, _, _, _, _, none⟩); exact rfl; exact rfl) | (apply WD.cons (o := ⟨some 105, _, _, _, _, none⟩); exact rfl; exact rfl) | (apply WD.cons (o := ⟨none, .store 48 (.tmp 105) (.tmp 89), _, _, _, none⟩); exact rfl; exact rfl) | (apply WD.cons (o := ⟨some 106, _, _, _, _, none⟩); exact rfl; exact rfl) | (apply WD.cons (o := ⟨none, .store 48 (.tmp 106) (.tmp 94), _, _, _, none⟩); exact rfl; exact rfl) | (apply WD.cons (o := ⟨some 107, _, _, _, _, none⟩); exact rfl; exact rfl) | (apply WD.cons (o := ⟨none, .store 48 (.tmp 107) (.tmp 99), _, _, _, none⟩); exact rfl; exact rfl) | (apply WD.cons (o := ⟨some 108, _, _, _, _, none⟩); exact rfl; exact rfl) | (apply WD.cons (o := ⟨none, .store 48 (.tmp 108) (.tmp 104), _, _, _, none⟩); exact rfl; exact rfl) | (refine WD.cons rfl rfl ?_) | (refine WD.nil ⟨?_, ?_⟩; rotate_left; simp only [tN, bN, eN, true_and]) | (refine calmR rfl rfl rfl rfl rfl ?_ ?_; (focus (first | exact Z2 | exact Z1))) | (refine calmE rfl rfl rfl rfl rfl ?_ ?_; (focus (first | exact Z2 | exact Z1))) | (with_reducible refine calmEnd) | (apply W.draw (id := 6) (lc := [0, 1, 2, 3, 4, 5, 6, 7]) (hot := [(2, 3)]); kernel_rfl; kernel_rfl; kernel_rfl; exact Z4) | (refine WD.cons rfl rfl ?_) | (refine WD.nil ⟨?_, ?_⟩; rotate_left; simp only [tN, bN, eN, true_and]) | (refine calmR rfl rfl rfl rfl rfl ?_ ?_; (focus (first | exact Z2 | exact Z1))) | (refine calmE rfl rfl rfl rfl rfl ?_ ?_; (focus (first | exact Z2 | exact Z1))) | (with_reducible refine calmEnd) | (apply WO1.appendK (t := 49) (u := 49) (e := 95) (e' := 95) (sz := 4) (tl := []) (y := ra) (l := rs.map rdgC.enc); (focus (first | exact Z2 | exact Z1)); exact rfl; exact Z2; exact Z2; exact Z2; (focus (exact ty_row49)); (focus (exact hel)); (focus (exact hsz)); (focus (exact hlen)); (intro v1 hp1 hB1 ho1 hX1; simp only [pM, pN])) | (apply WO1.appendN (t := 49) (u := 49) (e := 95) (e' := 95) (sz := 4) (tl := []) (b := 0) (h0 := ⟨0, .nil⟩); (focus (exact hB1)); (focus (exact hX1)); exact Z1; exact rfl; exact Z2; exact Z2; exact Z2; (focus (exact ty_row49)); exact Z1; (focus (intro v hv; simp at hv; subst hv; rfl)); (focus (simp only [List.length_cons, List.length_nil]; exact hll)); (focus (simp)); (intro v2 hp2 hB2 ho2 hX2; have hc2 := hB2.blt.cells; have ht2 := hB2.blt.tup; simp only [AV.cells] at hc2; simp only [isTuple] at ht2; have HB1 := Lib.hid hB1; have HX1 := Lib.hid hX1; have HB2 := Lib.hid hB2; have HX2 := Lib.hid hX2; clear hB1 hX1 hB2 hX2; simp only [pM, pN])) | refine go1 ?_ | (apply U6; exact Z1; exact Z1; (focus (simp only [List.nil_append, List.append_nil]; first | exact k38 _ | exact k44 _ | exact k54 _ | exact k62a _ | exact k62b _ | exact k62c _ | exact k62d _)); simp only [pM, pN, rR, rP]) | refine go2 (fun hh => ?_) (fun hh => ?_) | fail)
   have hB2 := HB2.out
   have hbs := hB2.blt
   have hsee : ∀ h', HExt hp2 h' → SeeV h' rdgC v2 (rs ++ [⟨rb, rx, ry, re⟩]) := fun h' hx => SeeV.blt (sz := 4) (by
    have := hbs.ext hx
    rw [List.map_append]
    exact this) (by have := HG.out.2.2.2.2.2; simp; unfold maxL; omega)
   have hsee1 := hsee hp2 (HExt.refl _)
   have k40a := HX40.out hp2 v2 _ hsee1
   have k40b := HX40.out hp2 ra rs (.of HV3.out _)
   generalize hable1 : ableI (machB st cx' cy' wx' wy' (rs ++ [⟨rb, rx, ry, re⟩])) ((boundsS (ax0 cx' wx' (rs ++ [⟨rb, rx, ry, re⟩]) [])).isSome && (boundsS (ax1 cy' wy' (rs ++ [⟨rb, rx, ry, re⟩]) [])).isSome) = w1 at *
   generalize hable2 : ableI (machB st cx' cy' wx' wy' rs) ((boundsS (ax0 cx' wx' rs [])).isSome && (boundsS (ax1 cy' wy' rs [])).isSome) = w2 at *
   have HK40a := Lib.hid k40a
   have HK40b := Lib.hid k40b
   have HSEE := Lib.hid hsee
   have HA1 := Lib.hid hable1
   have HA2 := Lib.hid hable2
   clear k40a k40b hsee hsee1 hbs hB2 hable1 hable2
   cases y1 : (w1 != 0)
   ·repeat' (first | refine goS ?_ | (apply U6; exact Z1; exact Z1; (focus (simp only [List.nil_append, List.append_nil]; first | exact HK40a.out)); simp only [pM, pN, rR, rP]) | refine go2 (fun hh => ?_) (fun hh => ?_) | fail)
    have hab := able_yes (show (ableI (machB st cx' cy' wx' wy' (rs ++ [⟨rb, rx, ry, re⟩])) ((boundsS (ax0 cx' wx' (rs ++ [⟨rb, rx, ry, re⟩]) [])).isSome && (boundsS (ax1 cy' wy' (rs ++ [⟨rb, rx, ry, re⟩]) [])).isSome) != 0) = false by rw [HA1.out]; exact y1)
    obtain ⟨hmx, ⟨a', hA'⟩, ⟨b', hB'⟩⟩ := hab
    obtain ⟨f1, f2, f3, f4, f5, f6, f7⟩ := HF.out
    obtain ⟨g1, g2, g3, g4, g5, g6⟩ := HG.out
    have hask : askOk hs st off (machB st cx cy wx wy rs) true = true := by unfold askOk; simp [f1, f4, f6]
    have hask2 : askOk hs st off (machB st cx cy wx wy rs) (inB ((n : Nat) : Int) 1 12) = true := by rw [f7]; exact hask
    have hask' : askOk hs st off' (machB st cx' cy' wx' wy' (rs ++ [⟨rb, rx, ry, re⟩])) true = true := by unfold askOk; simp [hmx, f5, f6]
    have hask2' : askOk hs st off' (machB st cx' cy' wx' wy' (rs ++ [⟨rb, rx, ry, re⟩])) (inB ((n : Nat) : Int) 1 12) = true := by rw [f7]; exact hask'
    have hml := more_law (hs := hs) (off := off) (off' := off') f1 hmx g1 (fun r hr => List.mem_append.2 (.inl hr)) f2 f3 hA' hB' g2 g3 g4
    have k46a := HK46.out hp2
    have k46b := HX46.out hp2 v2 (rs ++ [⟨rb, rx, ry, re⟩]) (HSEE.out hp2 (HExt.refl _))
    have k43a := HK43.out hp2
    have k43b := HX43.out hp2 v2 (rs ++ [⟨rb, rx, ry, re⟩]) (HSEE.out hp2 (HExt.refl _))
    rw [hask, f2, f3] at k46a
    rw [hask', hA', hB'] at k46b
    rw [hask2, f2, f3] at k43a
    rw [hask2', hA', hB'] at k43b
    simp only [gaugeF, sureF, if_true, Int.toNat_natCast] at k46a k46b k43a k43b
    have d1 : decide (((gaugeN (sureAt (goodB off' hs st) a' b') : Nat) : Int) < ((gaugeN (sureAt (goodB off hs st) a b) : Nat) : Int)) = false := by
     have := hml.1
     simp only [decide_eq_false_iff_not]
     omega
    have s3 := hml.2 n g5
    have es1 : sureAt (goodB off hs st) a b n = sureW (goodB off hs st) (a.getD n ⟨0, 0⟩) (b.getD n ⟨0, 0⟩) := sureAt_def _ _ _ _
    have es2 : sureAt (goodB off' hs st) a' b' n = sureW (goodB off' hs st) (a'.getD n ⟨0, 0⟩) (b'.getD n ⟨0, 0⟩) := sureAt_def _ _ _ _
    rw [es1, es2] at s3
    generalize sureW (goodB off hs st) (a.getD n ⟨0, 0⟩) (b.getD n ⟨0, 0⟩) = sw at *
    generalize sureW (goodB off' hs st) (a'.getD n ⟨0, 0⟩) (b'.getD n ⟨0, 0⟩) = sv at *
    generalize gaugeN (sureAt (goodB off' hs st) a' b') = gx at *
    generalize gaugeN (sureAt (goodB off hs st) a b) = gm at *
    have HS3 := Lib.hid s3
    have HP1 := Lib.hid (show possB cx cy wx wy rs = true by unfold possB; rw [f2, f3]; rfl)
    have HP2 := Lib.hid (show possB cx' cy' wx' wy' (rs ++ [⟨rb, rx, ry, re⟩]) = true by unfold possB; rw [hA', hB']; rfl)
    have HMX := Lib.hid hmx
    have HK46a := Lib.hid k46a
    have HK46b := Lib.hid k46b
    have HK43a := Lib.hid k43a
    have HK43b := Lib.hid k43b
    clear hmx hA' hB' f1 f2 f3 f4 f5 f6 f7 g1 g2 g3 g4 g5 g6 hask hask2 hask' hask2' hml k46a k46b k43a k43b s3 es1 es2
    have hbad : (butB bs err && decide (bs.length = st.length)) = true ∨ (butB bs err = false ∨ (butB bs err = true ∧ decide (bs.length = st.length) = false)) := by
     cases butB bs err <;> cases decide (bs.length = st.length) <;> simp
    have hsw : ((sw == 3) = true ∧ sv = 3) ∨ (sw == 3) = false := by
     cases q : (sw == 3)
     ·exact .inr rfl
     ·exact .inl ⟨rfl, HS3.out (by simpa using q)⟩
    rcases hbad with hbad | hbad
    ·rw [Bool.and_eq_true] at hbad
     obtain ⟨hb1, hb2⟩ := hbad
     have hsu : suitB (machB st cx cy wx wy rs) st bs err = true := by unfold suitB; rw [HF.out.1, hb1, hb2]; rfl
     have hsu2 : suitB (machB st cx' cy' wx' wy' (rs ++ [⟨rb, rx, ry, re⟩])) st bs err = true := by unfold suitB; rw [HMX.out, hb1, hb2]; rfl
     have hal := all_law HF.out.1 HMX.out HG.out.1 (fun r hr => List.mem_append.2 (.inl hr)) hsu
     have hl1 := couldN_len (fun n => (boxL err st bs).any (canB cx cy wx wy rs n)) 12
     have hl2 := couldN_len (fun n => (boxL err st bs).any (canB cx' cy' wx' wy' (rs ++ [⟨rb, rx, ry, re⟩]) n)) 12
     obtain ⟨v3, hp3, hcl3, hb3, hx3⟩ := HK63.out hp2 true true _ hsu HP1.out rfl
     obtain ⟨v4, hp4, hcl4, hb4, hx4⟩ := HX63.out hp3 v2 (rs ++ [⟨rb, rx, ry, re⟩]) (HSEE.out hp3 hx3) true true _ hsu2 HP2.out rfl
     simp only [Bool.and_self, if_true] at hcl3 hb3 hcl4 hb4
     have hb3' := hb3.ext hx4
     have k64 := K64 (X := dX c13) rfl v3 v4 _ _ hp4 (SeeV.nats hb3' (by unfold maxL; omega)) (SeeV.nats hb4 (by unfold maxL; omega))
     rw [hal] at k64
     have z3 := hb3.len
     have z4 := hb4.len
     rw [natsV_len] at z3 z4
     generalize couldN (fun n => (boxL err st bs).any (canB cx cy wx wy rs n)) 12 = l1 at *
     generalize couldN (fun n => (boxL err st bs).any (canB cx' cy' wx' wy' (rs ++ [⟨rb, rx, ry, re⟩]) n)) 12 = l2 at *
     have d2 : decide ((l1.length : Int) ≤ 12) = true := by simp; omega
     have d3 : decide ((l2.length : Int) ≤ 12) = true := by simp; omega
     have z5 := hb3.out
     have z6 := hb4.out
     have z7 := hb3.tup
     have z8 := hb4.tup
     simp only [isTuple] at z7 z8
     have HK63a := Lib.hid hcl3
     have HK63b := Lib.hid hcl4
     have HK64 := Lib.hid k64
     have db : decide (bs.length = st.length) = true := hb2
     rw [hb1] at k51
     rw [hb2] at hle2
     simp only [Bool.not_true] at hle2
     clear hsu hsu2 hal hl1 hl2 hcl3 hcl4 hb3 hb4 hx3 hx4 hb3' k64 hb1 hb2
     rcases hsw with ⟨c1, rfl⟩ | c1
     ·repeat' (first | refine goS ?_ | (apply U6; exact Z1; exact Z1; (focus (simp only [List.nil_append, List.append_nil]; first | exact HK46a.out | exact HK46b.out | exact HK43a.out | exact HK43b.out | exact k51 _ | exact HK63a.out | exact HK63b.out | exact HK64.out | exact k25 _)); simp only [pM, pN, rR, rP]) | refine go2 (fun hh => ?_) (fun hh => ?_) | fail)
      all_goals (simp only [resV_def (X := dX c13) Tryz.func13, Tryz.results13]; first | exact J5 | refine J6 ?_)
     ·repeat' (first | refine goS ?_ | (apply U6; exact Z1; exact Z1; (focus (simp only [List.nil_append, List.append_nil]; first | exact HK46a.out | exact HK46b.out | exact HK43a.out | exact HK43b.out | exact k51 _ | exact HK63a.out | exact HK63b.out | exact HK64.out | exact k25 _)); simp only [pM, pN, rR, rP]) | refine go2 (fun hh => ?_) (fun hh => ?_) | fail)
      all_goals (simp only [resV_def (X := dX c13) Tryz.func13, Tryz.results13]; first | exact J5 | refine J6 ?_)
    ·rcases hbad with hb1 | ⟨hb1, hb2⟩
     ·rw [hb1] at k51
      clear hb1
      rcases hsw with ⟨c1, rfl⟩ | c1
      ·repeat' (first | refine goS ?_ | (apply U6; exact Z1; exact Z1; (focus (simp only [List.nil_append, List.append_nil]; first | exact HK46a.out | exact HK46b.out | exact HK43a.out | exact HK43b.out | exact k51 _ | exact k25 _)); simp only [pM, pN, rR, rP]) | refine go2 (fun hh => ?_) (fun hh => ?_) | fail)
       all_goals (simp only [resV_def (X := dX c13) Tryz.func13, Tryz.results13]; first | exact J5 | refine J6 ?_)
      ·repeat' (first | refine goS ?_ | (apply U6; exact Z1; exact Z1; (focus (simp only [List.nil_append, List.append_nil]; first | exact HK46a.out | exact HK46b.out | exact HK43a.out | exact HK43b.out | exact k51 _ | exact k25 _)); simp only [pM, pN, rR, rP]) | refine go2 (fun hh => ?_) (fun hh => ?_) | fail)
       all_goals (simp only [resV_def (X := dX c13) Tryz.func13, Tryz.results13]; first | exact J5 | refine J6 ?_)
     ·rw [hb1] at k51
      rw [hb2] at hle2
      simp only [Bool.not_false] at hle2
      clear hb1 hb2
      rcases hsw with ⟨c1, rfl⟩ | c1
      ·repeat' (first | refine goS ?_ | (apply U6; exact Z1; exact Z1; (focus (simp only [List.nil_append, List.append_nil]; first | exact HK46a.out | exact HK46b.out | exact HK43a.out | exact HK43b.out | exact k51 _ | exact k25 _)); simp only [pM, pN, rR, rP]) | refine go2 (fun hh => ?_) (fun hh => ?_) | fail)
       all_goals (simp only [resV_def (X := dX c13) Tryz.func13, Tryz.results13]; first | exact J5 | refine J6 ?_)
      ·repeat' (first | refine goS ?_ | (apply U6; exact Z1; exact Z1; (focus (simp only [List.nil_append, List.append_nil]; first | exact HK46a.out | exact HK46b.out | exact HK43a.out | exact HK43b.out | exact k51 _ | exact k25 _)); simp only [pM, pN, rR, rP]) | refine go2 (fun hh => ?_) (fun hh => ?_) | fail)
       all_goals (simp only [resV_def (X := dX c13) Tryz.func13, Tryz.results13]; first | exact J5 | refine J6 ?_)
   ·cases y2 : (w2 != 0)
    ·repeat' (first | refine goS ?_ | (apply U6; exact Z1; exact Z1; (focus (simp only [List.nil_append, List.append_nil]; first | exact HK40a.out | exact HK40b.out)); simp only [pM, pN, rR, rP]) | refine go2 (fun hh => ?_) (fun hh => ?_) | fail)
     have hab := able_yes (show (ableI (machB st cx' cy' wx' wy' rs) ((boundsS (ax0 cx' wx' rs [])).isSome && (boundsS (ax1 cy' wy' rs [])).isSome) != 0) = false by rw [HA2.out]; exact y2)
     obtain ⟨hmx, ⟨a', hA'⟩, ⟨b', hB'⟩⟩ := hab
     obtain ⟨f1, f2, f3, f4, f5, f6, f7⟩ := HF.out
     obtain ⟨g1, g2, g3, g4, g5, g6⟩ := HG.out
     have hask : askOk hs st off (machB st cx cy wx wy rs) true = true := by unfold askOk; simp [f1, f4, f6]
     have hask2 : askOk hs st off (machB st cx cy wx wy rs) (inB ((n : Nat) : Int) 1 12) = true := by rw [f7]; exact hask
     have hask' : askOk hs st off' (machB st cx' cy' wx' wy' rs) true = true := by unfold askOk; simp [hmx, f5, f6]
     have hask2' : askOk hs st off' (machB st cx' cy' wx' wy' rs) (inB ((n : Nat) : Int) 1 12) = true := by rw [f7]; exact hask'
     have hml := more_law (hs := hs) (off := off) (off' := off') f1 hmx g1 (fun r hr => hr) f2 f3 hA' hB' g2 g3 g4
     have k46a := HK46.out hp2
     have k46b := HX46.out hp2 ra rs ((fun h' _ => SeeV.of HV3.out h') hp2 (HExt.refl _))
     have k43a := HK43.out hp2
     have k43b := HX43.out hp2 ra rs ((fun h' _ => SeeV.of HV3.out h') hp2 (HExt.refl _))
     rw [hask, f2, f3] at k46a
     rw [hask', hA', hB'] at k46b
     rw [hask2, f2, f3] at k43a
     rw [hask2', hA', hB'] at k43b
     simp only [gaugeF, sureF, if_true, Int.toNat_natCast] at k46a k46b k43a k43b
     have d1 : decide (((gaugeN (sureAt (goodB off' hs st) a' b') : Nat) : Int) < ((gaugeN (sureAt (goodB off hs st) a b) : Nat) : Int)) = false := by
      have := hml.1
      simp only [decide_eq_false_iff_not]
      omega
     have s3 := hml.2 n g5
     have es1 : sureAt (goodB off hs st) a b n = sureW (goodB off hs st) (a.getD n ⟨0, 0⟩) (b.getD n ⟨0, 0⟩) := sureAt_def _ _ _ _
     have es2 : sureAt (goodB off' hs st) a' b' n = sureW (goodB off' hs st) (a'.getD n ⟨0, 0⟩) (b'.getD n ⟨0, 0⟩) := sureAt_def _ _ _ _
     rw [es1, es2] at s3
     generalize sureW (goodB off hs st) (a.getD n ⟨0, 0⟩) (b.getD n ⟨0, 0⟩) = sw at *
     generalize sureW (goodB off' hs st) (a'.getD n ⟨0, 0⟩) (b'.getD n ⟨0, 0⟩) = sv at *
     generalize gaugeN (sureAt (goodB off' hs st) a' b') = gx at *
     generalize gaugeN (sureAt (goodB off hs st) a b) = gm at *
     have HS3 := Lib.hid s3
     have HP1 := Lib.hid (show possB cx cy wx wy rs = true by unfold possB; rw [f2, f3]; rfl)
     have HP2 := Lib.hid (show possB cx' cy' wx' wy' rs = true by unfold possB; rw [hA', hB']; rfl)
     have HMX := Lib.hid hmx
     have HK46a := Lib.hid k46a
     have HK46b := Lib.hid k46b
     have HK43a := Lib.hid k43a
     have HK43b := Lib.hid k43b
     clear hmx hA' hB' f1 f2 f3 f4 f5 f6 f7 g1 g2 g3 g4 g5 g6 hask hask2 hask' hask2' hml k46a k46b k43a k43b s3 es1 es2
     have hbad : (butB bs err && decide (bs.length = st.length)) = true ∨ (butB bs err = false ∨ (butB bs err = true ∧ decide (bs.length = st.length) = false)) := by
      cases butB bs err <;> cases decide (bs.length = st.length) <;> simp
     have hsw : ((sw == 3) = true ∧ sv = 3) ∨ (sw == 3) = false := by
      cases q : (sw == 3)
      ·exact .inr rfl
      ·exact .inl ⟨rfl, HS3.out (by simpa using q)⟩
     rcases hbad with hbad | hbad
     ·rw [Bool.and_eq_true] at hbad
      obtain ⟨hb1, hb2⟩ := hbad
      have hsu : suitB (machB st cx cy wx wy rs) st bs err = true := by unfold suitB; rw [HF.out.1, hb1, hb2]; rfl
      have hsu2 : suitB (machB st cx' cy' wx' wy' rs) st bs err = true := by unfold suitB; rw [HMX.out, hb1, hb2]; rfl
      have hal := all_law HF.out.1 HMX.out HG.out.1 (fun r hr => hr) hsu
      have hl1 := couldN_len (fun n => (boxL err st bs).any (canB cx cy wx wy rs n)) 12
      have hl2 := couldN_len (fun n => (boxL err st bs).any (canB cx' cy' wx' wy' rs n)) 12
      obtain ⟨v3, hp3, hcl3, hb3, hx3⟩ := HK63.out hp2 true true _ hsu HP1.out rfl
      obtain ⟨v4, hp4, hcl4, hb4, hx4⟩ := HX63.out hp3 ra rs ((fun h' _ => SeeV.of HV3.out h') hp3 hx3) true true _ hsu2 HP2.out rfl
      simp only [Bool.and_self, if_true] at hcl3 hb3 hcl4 hb4
      have hb3' := hb3.ext hx4
      have k64 := K64 (X := dX c13) rfl v3 v4 _ _ hp4 (SeeV.nats hb3' (by unfold maxL; omega)) (SeeV.nats hb4 (by unfold maxL; omega))
      rw [hal] at k64
      have z3 := hb3.len
      have z4 := hb4.len
      rw [natsV_len] at z3 z4
      generalize couldN (fun n => (boxL err st bs).any (canB cx cy wx wy rs n)) 12 = l1 at *
      generalize couldN (fun n => (boxL err st bs).any (canB cx' cy' wx' wy' rs n)) 12 = l2 at *
      have d2 : decide ((l1.length : Int) ≤ 12) = true := by simp; omega
      have d3 : decide ((l2.length : Int) ≤ 12) = true := by simp; omega
      have z5 := hb3.out
      have z6 := hb4.out
      have z7 := hb3.tup
      have z8 := hb4.tup
      simp only [isTuple] at z7 z8
      have HK63a := Lib.hid hcl3
      have HK63b := Lib.hid hcl4
      have HK64 := Lib.hid k64
      have db : decide (bs.length = st.length) = true := hb2
      rw [hb1] at k51
      rw [hb2] at hle2
      simp only [Bool.not_true] at hle2
      clear hsu hsu2 hal hl1 hl2 hcl3 hcl4 hb3 hb4 hx3 hx4 hb3' k64 hb1 hb2
      rcases hsw with ⟨c1, rfl⟩ | c1
      ·repeat' (first | refine goS ?_ | (apply U6; exact Z1; exact Z1; (focus (simp only [List.nil_append, List.append_nil]; first | exact HK46a.out | exact HK46b.out | exact HK43a.out | exact HK43b.out | exact k51 _ | exact HK63a.out | exact HK63b.out | exact HK64.out | exact k25 _)); simp only [pM, pN, rR, rP]) | refine go2 (fun hh => ?_) (fun hh => ?_) | fail)
       all_goals (simp only [resV_def (X := dX c13) Tryz.func13, Tryz.results13]; first | exact J5 | refine J6 ?_)
      ·repeat' (first | refine goS ?_ | (apply U6; exact Z1; exact Z1; (focus (simp only [List.nil_append, List.append_nil]; first | exact HK46a.out | exact HK46b.out | exact HK43a.out | exact HK43b.out | exact k51 _ | exact HK63a.out | exact HK63b.out | exact HK64.out | exact k25 _)); simp only [pM, pN, rR, rP]) | refine go2 (fun hh => ?_) (fun hh => ?_) | fail)
       all_goals (simp only [resV_def (X := dX c13) Tryz.func13, Tryz.results13]; first | exact J5 | refine J6 ?_)
     ·rcases hbad with hb1 | ⟨hb1, hb2⟩
      ·rw [hb1] at k51
       clear hb1
       rcases hsw with ⟨c1, rfl⟩ | c1
       ·repeat' (first | refine goS ?_ | (apply U6; exact Z1; exact Z1; (focus (simp only [List.nil_append, List.append_nil]; first | exact HK46a.out | exact HK46b.out | exact HK43a.out | exact HK43b.out | exact k51 _ | exact k25 _)); simp only [pM, pN, rR, rP]) | refine go2 (fun hh => ?_) (fun hh => ?_) | fail)
        all_goals (simp only [resV_def (X := dX c13) Tryz.func13, Tryz.results13]; first | exact J5 | refine J6 ?_)
       ·repeat' (first | refine goS ?_ | (apply U6; exact Z1; exact Z1; (focus (simp only [List.nil_append, List.append_nil]; first | exact HK46a.out | exact HK46b.out | exact HK43a.out | exact HK43b.out | exact k51 _ | exact k25 _)); simp only [pM, pN, rR, rP]) | refine go2 (fun hh => ?_) (fun hh => ?_) | fail)
        all_goals (simp only [resV_def (X := dX c13) Tryz.func13, Tryz.results13]; first | exact J5 | refine J6 ?_)
      ·rw [hb1] at k51
       rw [hb2] at hle2
       simp only [Bool.not_false] at hle2
       clear hb1 hb2
       rcases hsw with ⟨c1, rfl⟩ | c1
       ·repeat' (first | refine goS ?_ | (apply U6; exact Z1; exact Z1; (focus (simp only [List.nil_append, List.append_nil]; first | exact HK46a.out | exact HK46b.out | exact HK43a.out | exact HK43b.out | exact k51 _ | exact k25 _)); simp only [pM, pN, rR, rP]) | refine go2 (fun hh => ?_) (fun hh => ?_) | fail)
        all_goals (simp only [resV_def (X := dX c13) Tryz.func13, Tryz.results13]; first | exact J5 | refine J6 ?_)
       ·repeat' (first | refine goS ?_ | (apply U6; exact Z1; exact Z1; (focus (simp only [List.nil_append, List.append_nil]; first | exact HK46a.out | exact HK46b.out | exact HK43a.out | exact HK43b.out | exact k51 _ | exact k25 _)); simp only [pM, pN, rR, rP]) | refine go2 (fun hh => ?_) (fun hh => ?_) | fail)
        all_goals (simp only [resV_def (X := dX c13) Tryz.func13, Tryz.results13]; first | exact J5 | refine J6 ?_)
    ·repeat' (first | refine goS ?_ | (apply U6; exact Z1; exact Z1; (focus (simp only [List.nil_append, List.append_nil]; first | exact HK40a.out | exact HK40b.out | exact k25 _)); simp only [pM, pN, rR, rP]) | refine go2 (fun hh => ?_) (fun hh => ?_) | fail)
     all_goals (simp only [resV_def (X := dX c13) Tryz.func13, Tryz.results13]; first | exact J5 | refine J6 ?_)
  ·have hcase := seven _ _ _ _ _ _ _ hall
   clear hc hl hr hh hp1 hp2 v1 v2 v3 v4 ga gb' gc' hhe hall hheq
   refine ClR.walk (c := _) rfl Tryz.func13 rfl (by kernel_rfl) rfl isRet_fail ?_
   simp only [entryEnv, Nat.reduceAdd, emptyHp]
   rcases hcase with q1 | ⟨q1, q2⟩ | ⟨q1, q2, q3⟩ | ⟨q1, q2, q3, q4⟩ | ⟨q1, q2, q3, q4, q5⟩ | ⟨q1, q2, q3, q4, q5, q6⟩ | ⟨q1, q2, q3, q4, q5, q6, q7⟩
   all_goals (
    repeat' (first | refine goS ?_ | (apply U6; exact Z1; exact Z1; (focus (simp only [List.nil_append, List.append_nil]; first | exact k38 _ | exact k44 _ | exact k54 _ | exact k25 _)); simp only [pM, pN, rR, rP]) | refine go2 (fun hh => ?_) (fun hh => ?_) | fail)
    all_goals (simp only [resV_def (X := dX c13) Tryz.func13, Tryz.results13]; first | exact J5 | refine J6 ?_))
 ·have hcase : (decide ((st.length : Int) ≤ 6) && decide ((rs.length : Int) ≤ 6)) = false ∨ ((decide ((st.length : Int) ≤ 6) && decide ((rs.length : Int) ≤ 6)) = true ∧ decide ((hs.length : Int) > 6) = true) ∨ ((decide ((st.length : Int) ≤ 6) && decide ((rs.length : Int) ≤ 6)) = true ∧ decide ((hs.length : Int) > 6) = false ∧ decide ((bs.length : Int) ≤ 6) = false) := by
   cases q1 : (decide ((st.length : Int) ≤ 6) && decide ((rs.length : Int) ≤ 6)) <;> cases q2 : decide ((hs.length : Int) > 6) <;> cases q3 : decide ((bs.length : Int) ≤ 6) <;> first | exact .inl rfl | exact .inr (.inl ⟨rfl, rfl⟩) | exact .inr (.inr ⟨rfl, rfl, rfl⟩) | exact absurd ⟨q1, q2, q3⟩ gs
  clear hc hl hr hh hp1 hp2 gs
  generalize (decide ((st.length : Int) ≤ 6) && decide ((rs.length : Int) ≤ 6)) = sl at *
  generalize decide ((bs.length : Int) ≤ 6) = fw at *
  refine ClR.walk (c := _) rfl Tryz.func13 rfl (by kernel_rfl) rfl isRet_fail ?_
  simp only [entryEnv, Nat.reduceAdd, emptyHp]
  rcases hcase with rfl | ⟨rfl, y1⟩ | ⟨rfl, y1, rfl⟩
  all_goals (
   repeat' (first | refine goS ?_ | (apply U6; exact Z1; exact Z1; (focus (simp only [List.nil_append, List.append_nil]; first | exact k38 _ | exact k54 _ | exact k25 _)); simp only [pM, pN, rR, rP]) | refine go2 (fun hh => ?_) (fun hh => ?_) | fail)
   all_goals (simp only [resV_def (X := dX c13) Tryz.func13, Tryz.results13]; first | exact J5 | refine J6 ?_))
end Go.AM
