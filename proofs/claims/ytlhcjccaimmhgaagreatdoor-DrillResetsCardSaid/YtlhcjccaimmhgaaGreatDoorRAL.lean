/-
  Texts of the proof: an evaluator of the program's code, its soundness, contracts of functions.
-/
import Derived.Test.YtlhcjccaimmhgaaGreatDoorRAK
import Derived.Test.YtlhcjccaimmhgaaGreatDoorRAH
import Derived.Test.YtlhcjccaimmhgaaGreatDoorRAI
import Derived.Test.YtlhcjccaimmhgaaGreatDoorRAE
set_option linter.unusedSectionVars false
set_option linter.unusedVariables false
set_option linter.unusedSimpArgs false
set_option maxRecDepth 100000
namespace Go.AM
open Go Go.Proofs
variable [Keep]
attribute [local irreducible] W WO WO1 WD WQ WT thenQ blockQ endR isRet retK Cl ClR
attribute [local irreducible] boundsS machB ordsR lev rfGo betB
def rfT (r : Option (List Pt)) : AV := match r with
  | some l => .tuple [slN (l.map ptC.enc), .bool true]
  | none => .tuple [.nilslice, .bool false]
theorem K130 {X : Ctx} (hX : X.intr 130 = some (newP sp130)) (ca sa ra oa : AV) (hs st : List Pt) (rs : List Rdg) (cx cy wx wy : Sp) (a b : List Sp) (os : List Int) (off : Int) (n t : Nat) (hc : slV ptC ca = some hs) (hl : slV ptC sa = some st) (hr : slV rdgC ra = some rs) (hA : boundsS (ax0 cx wx rs []) = some a) (hB : boundsS (ax1 cy wy rs []) = some b) (hm : machB st cx cy wx wy rs = true) (hn : inB (n : Int) 1 12 = true) (ht : t < 8) (h : Heap) (ho : SeeV h intC oa os)
    (hg : hs.length = st.length ∧ os.length = st.length ∧ okOrd st.length os = true) :
    Cl X 130 [.agg [ca, .int .i64 off], .agg [sa, .int .i64 cx.lo, .int .i64 cx.hi, .int .i64 cy.lo, .int .i64 cy.hi, .int .i64 wx.lo, .int .i64 wx.hi, .int .i64 wy.lo, .int .i64 wy.hi, ra], .int .i64 n, .int .i64 t, oa] h (.ret (rfT (rfGo off t hs st (natsOf os) (boxH a b n) st.length)) h none) := by
  obtain ⟨oa', v1, s1⟩ := ho
  have hv1 : viewD h (.agg [ca, .int .i64 off]) = some (.agg [ca, .int .i64 off]) := viewD_but (view_pur (h := h) (sl_pur hc))
  have hv2 : viewD h (.agg [sa, .int .i64 cx.lo, .int .i64 cx.hi, .int .i64 cy.lo, .int .i64 cy.hi, .int .i64 wx.lo, .int .i64 wx.hi, .int .i64 wy.lo, .int .i64 wy.hi, ra]) = some (.agg [sa, .int .i64 cx.lo, .int .i64 cx.hi, .int .i64 cy.lo, .int .i64 cy.hi, .int .i64 wx.lo, .int .i64 wx.hi, .int .i64 wy.lo, .int .i64 wy.hi, ra]) := viewD_mach (view_pur (h := h) (sl_pur hl)) (view_pur (h := h) (sl_pur hr))
  have hv4 : viewD h oa = some oa' := by
    cases oa <;> first | exact v1 | (simp [viewV] at v1; cases v1; cases s1) | skip
    all_goals (unfold viewV at v1; simp only at v1; split at v1 <;> first | (cases v1; cases s1) | cases v1)
  have hvi : ∀ k : Int, viewD h (.int .i64 k) = some (.int .i64 k) := fun k => rfl
  have e : (machB st cx cy wx wy rs && inB (n : Int) 1 12 && inB ((t : Nat) : Int) 0 7 && decide (hs.length = st.length) && decide (os.length = st.length) && okOrd st.length os) = true := by
    simp only [Bool.and_eq_true, decide_eq_true_eq]
    refine ⟨⟨⟨⟨⟨hm, hn⟩, ?_⟩, hg.1⟩, hg.2.1⟩, hg.2.2⟩
    simp only [inB, Bool.and_eq_true, decide_eq_true_eq]
    omega
  have hs' : sp130 [.agg [ca, .int .i64 off], .agg [sa, .int .i64 cx.lo, .int .i64 cx.hi, .int .i64 cy.lo, .int .i64 cy.hi, .int .i64 wx.lo, .int .i64 wx.hi, .int .i64 wy.lo, .int .i64 wy.hi, ra], .int .i64 n, .int .i64 t, oa'] = some (rfV (rfGo off t hs st (natsOf os) (boxH a b n) st.length)) := by
    simp only [sp130, hc, hl, hr, s1, Option.getD_some, hA, hB]
    rw [if_pos e]
    simp only [Int.toNat_natCast]
  have hv : viewDs h [.agg [ca, .int .i64 off], .agg [sa, .int .i64 cx.lo, .int .i64 cx.hi, .int .i64 cy.lo, .int .i64 cy.hi, .int .i64 wx.lo, .int .i64 wx.hi, .int .i64 wy.lo, .int .i64 wy.hi, ra], .int .i64 n, .int .i64 t, oa] = some [.agg [ca, .int .i64 off], .agg [sa, .int .i64 cx.lo, .int .i64 cx.hi, .int .i64 cy.lo, .int .i64 cy.hi, .int .i64 wx.lo, .int .i64 wx.hi, .int .i64 wy.lo, .int .i64 wy.hi, ra], .int .i64 n, .int .i64 t, oa'] := by
    simp only [viewDs, hv1, hv2, hvi, hv4]
  have key := Cl.newP (X := X) (f := 130) (h := h) (el := (rfV (rfGo off t hs st (natsOf os) (boxH a b n) st.length)).1) (w := (rfV (rfGo off t hs st (natsOf os) (boxH a b n) st.length)).2) hX hv hs'
  generalize rfGo off t hs st (natsOf os) (boxH a b n) st.length = r at *
  cases r with
  | none => exact key
  | some r => exact key
theorem rfGo_len {off : Int} {t : Nat} {hs st : List Pt} {o : List Nat} {b : Bx} : ∀ {n : Nat} {r : List Pt}, rfGo off t hs st o b n = some r → r.length = st.length := by
  intro n
  induction n with
  | zero => intro r h; unfold rfGo at h; cases h; rfl
  | succ n ih =>
    intro r h
    unfold rfGo at h
    split at h
    · cases h
    · rename_i q hq
      split at h
      · have h := Option.some.inj h
        subst h
        simp [ih hq]
      · cases h
def rfStep (off : Int) (hs st : List Pt) (b : Bx) (t : Nat) (out : Option (List Pt)) (o : List Nat) : Option (List Pt) := match rfGo off t hs st o b st.length with
  | none => out
  | some l => bstep st out l
def rfTurn (off : Int) (hs st : List Pt) (b : Bx) (t : Nat) (out : Option (List Pt)) (k : Nat) : Option (List Pt) := ((lev st.length st.length).take k).foldl (rfStep off hs st b t) out
def rfTo (off : Int) (hs st : List Pt) (b : Bx) (k : Nat) : Option (List Pt) := (List.range k).foldl (fun out t => rfTurn off hs st b t out (lev st.length st.length).length) none
theorem rfTurn_next {off : Int} {hs st : List Pt} {b : Bx} {t : Nat} {out : Option (List Pt)} {k : Nat} {p : List Nat} (h : (lev st.length st.length)[k]? = some p) : rfTurn off hs st b t out (k + 1) = rfStep off hs st b t (rfTurn off hs st b t out k) p := by
  unfold rfTurn
  rw [take_next h, List.foldl_append]
  rfl
theorem rfTo_succ (off : Int) (hs st : List Pt) (b : Bx) (k : Nat) : rfTo off hs st b (k + 1) = rfTurn off hs st b k (rfTo off hs st b k) (lev st.length st.length).length := by
  unfold rfTo
  rw [List.range_succ, List.foldl_append]
  rfl
theorem fold_fm {α β γ : Type} (f : α → Option β) (g : γ → β → γ) : ∀ (l : List α) (a : γ), (l.filterMap f).foldl g a = l.foldl (fun a x => match f x with | none => a | some y => g a y) a := by
  intro l
  induction l with
  | nil => intro a; rfl
  | cons x l ih =>
    intro a
    rw [List.filterMap_cons, List.foldl_cons]
    cases f x with
    | none => exact ih a
    | some y => exact ih (g a y)
theorem fold_flm {α β γ : Type} (f : α → List β) (g : γ → β → γ) : ∀ (l : List α) (a : γ), (l.flatMap f).foldl g a = l.foldl (fun a x => (f x).foldl g a) a := by
  intro l
  induction l with
  | nil => intro a; rfl
  | cons x l ih =>
    intro a
    rw [List.flatMap_cons, List.foldl_append, List.foldl_cons]
    exact ih _
theorem rfTo_best (off : Int) (hs st : List Pt) (b : Bx) : rfTo off hs st b 8 = bestP st (rfAll off hs st b) := by
  unfold bestP rfAll rfTo
  rw [fold_flm]
  congr 1
  funext out t
  rw [fold_fm]
  unfold rfTurn
  rw [List.take_length]
  congr 1
  funext a x
  unfold rfStep
  cases rfGo off t hs st x b st.length <;> rfl
def okB (n : Nat) (out : Option (List Pt)) : Prop := ∀ l, out = some l → l.length = n
def isB (u : AV) (out : Option (List Pt)) : Prop := match out with
  | some l => slV ptC u = some l
  | none => u = .nilslice
theorem isB_out {u : AV} {out : Option (List Pt)} (h : isB u out) : outV (some u) = some u := by
  cases out with
  | none => cases h; rfl
  | some l => exact sl_out (show slV ptC u = some l from h)
theorem isB_tup {u : AV} {out : Option (List Pt)} (h : isB u out) : isTuple u = false := by
  cases out with
  | none => cases h; rfl
  | some l => exact (slV_is (show slV ptC u = some l from h)).1.tup
def r58V (r : Option (List Pt)) : AV := match r with
  | some l => .tuple [slN (l.map ptC.enc), .bool true]
  | none => .tuple [.nilslice, .bool false]
def sp58 : List AV → Option AV
  | [.agg [ca, .int .i64 off], .agg [sa, .int .i64 cxl, .int .i64 cxh, .int .i64 cyl, .int .i64 cyh, .int .i64 wxl, .int .i64 wxh, .int .i64 wyl, .int .i64 wyh, ra], .int .i64 blank] => match slV ptC ca, slV ptC sa, slV rdgC ra, boundsS (ax0 ⟨cxl, cxh⟩ ⟨wxl, wxh⟩ (((slV rdgC ra).getD [])) []), boundsS (ax1 ⟨cyl, cyh⟩ ⟨wyl, wyh⟩ (((slV rdgC ra).getD [])) []) with
    | some hs, some st, some rs, some a, some b => if (machB st ⟨cxl, cxh⟩ ⟨cyl, cyh⟩ ⟨wxl, wxh⟩ ⟨wyl, wyh⟩ rs && inB blank 1 12 && decide (hs.length = st.length)) = true then
        some (r58V (bestP st (rfAll off hs st (boxH a b blank.toNat)))) else none
    | _, _, _, _, _ => none
  | _ => none
theorem p58 : ∀ args v, sp58 args = some v → v.pur = true := by
  intro args v h
  unfold sp58 at h
  split at h
  · split at h
    · split at h
      · have h := Option.some.inj h
        subst h
        generalize bestP _ _ = r
        cases r with
        | none => rfl
        | some l => simp [r58V, AV.pur, AV.purL, slN_pur (enc_pur ptC _)]
      · cases h
    · cases h
  · cases h
noncomputable def cIP : FuncId → Option (List AV → Heap → Option (AV × Heap))
  | 61 => some (pureFn sp61)
  | 130 => some (newP sp130)
  | _ => none
theorem cIP_sound : Sound (dX cIP) := dX_sound (fun f g h => by
  unfold cIP at h
  split at h
  · cases h; exact F61
  · cases h; exact F130
  · cases h)
set_option maxHeartbeats 8000000 in
theorem F58 : IntrFn Tryz.prog 58 (pureFn sp58) := by
  refine pure_fn (X := dX cIP) cIP_sound p58 ?_
  intro args v h
  unfold sp58 at h
  split at h
  · rename_i ca off sa cxl cxh cyl cyh wxl wxh wyl wyh ra blank
    split at h
    · rename_i hs st rs a b hc hl hr hA hB
      split at h
      · rename_i hg
        have h := Option.some.inj h
        subst h
        simp only [Bool.and_eq_true, decide_eq_true_eq] at hg
        obtain ⟨⟨hm, hin⟩, hhs⟩ := hg
        rw [hr] at hA hB
        simp only [Option.getD_some] at hA hB
        have hms := mach_small hm
        have o1 := sl_out hc
        have o2 := sl_out hl
        have o4 := sl_out hr
        have ln2 := sl_len hl
        obtain ⟨n1, t1⟩ := sl_one hc
        obtain ⟨n2, t2⟩ := sl_one hl
        obtain ⟨n4, t4⟩ := sl_one hr
        obtain ⟨n, rfl⟩ : ∃ n : Nat, blank = n := by
          simp only [inB, Bool.and_eq_true, decide_eq_true_eq] at hin
          exact ⟨blank.toNat, by omega⟩
        have hn2 : 2 ≤ st.length := hms.1
        have hn4 : st.length ≤ 4 := hms.2.1
        have hcl0 := C129 cIP rfl st.length (by omega) hn4 ⟨0, .nil⟩
        unfold ClR at hcl0
        obtain ⟨rr, hcl, hcr⟩ := hcl0
        unfold ordsR at hcr
        obtain ⟨es, hz, rfl, hzx, hel⟩ := hcr
        have hes : es.length ≤ 256 := by
          have h1 := hel.1
          have h2 := lev_small hn4 st.length hn4
          have h3 : 4 ^ st.length ≤ 4 ^ 4 := Nat.pow_le_pow_right (by omega) hn4
          omega
        rw [← rfTo_best]
        simp only [Int.toNat_natCast]
        have k130 := fun (oa : AV) (os : List Int) (t : Nat) (ht : t < 8) (h : Heap) (ho : SeeV h intC oa os) hg => K130 (X := dX cIP) rfl ca sa ra oa hs st rs ⟨cxl, cxh⟩ ⟨cyl, cyh⟩ ⟨wxl, wxh⟩ ⟨wyl, wyh⟩ a b os off n t hc hl hr hA hB hm hin ht h ho hg
        simp only at k130
        generalize boxH a b n = bx at *
        have HK := Lib.hid k130
        have HEL := Lib.hid hel
        have HES := Lib.hid hes
        have HL := Lib.hid hl
        have HHS := Lib.hid hhs
        have HN2 := Lib.hid hn2
        have HN4 := Lib.hid hn4
        generalize hres : rfTo off hs st bx 8 = res
        have HRES := Lib.hid hres
        clear hc hl hr hhs hn2 hn4 hzx hel hes hres hm hin hms hA hB k130
        refine ClR.walk (c := _) rfl Tryz.func58 rfl (by kernel_rfl) rfl isRet_fail ?_
        simp only [entryEnv, Nat.reduceAdd, emptyHp]
        repeat' (first | (apply U6; exact Z1; exact Z1; (focus (exact hcl)); simp only [pM, pN, rR, rP]) | refine go1 ?_ | refine go2 (fun hh => ?_) (fun hh => ?_) | fail)
        refine W.loopN 8 (fun t F => ∃ e lm u out, F = Fr.mk 58 false e lm hz [] none ∧ out = rfTo off hs st bx t ∧ isB u out ∧ okB st.length out ∧
          lm.get 3 = some (0, [ca, .int .i64 off]) ∧ lm.get 4 = some (0, [sa, .int .i64 cxl, .int .i64 cxh, .int .i64 cyl, .int .i64 cyh, .int .i64 wxl, .int .i64 wxh, .int .i64 wyl, .int .i64 wyh, ra]) ∧ e.get 2 = some (.int .i64 ↑n) ∧ e.get 3 = some (.lptr 3 0 0) ∧ e.get 4 = some (.lptr 4 0 0) ∧ e.get 8 = some u ∧ e.get 9 = some (.bool out.isSome) ∧ e.get 10 = some (.vslice es) ∧ e.get 11 = some (.int .i64 ↑t) ∧ t ≤ 8) ?_ ?_
        · refine ⟨_, _, .nilslice, none, rfl, rfl, rfl, (fun l h => by cases h), ?_, ?_, ?_, ?_, ?_, ?_, ?_, ?_, ?_, ?_⟩ <;> first | (simp only [Option.isSome_none, go_sem, *, Nat.reduceLT, Int.reduceEq, Int.reduceBEq, Int.reduceLE, Int.reduceLT, Nat.reduceAdd, Nat.reduceBEq, Nat.reduceEqDiff, reduceIte, Nat.reduceLeDiff, Nat.reduceMul, Nat.reduceSub, reduceCtorEq]; done) | simp [go_sem, *]
        clear hcl
        rintro t F ⟨e, lm, u, out, rfl, hot, hu, hok, l3, l4, h2, h3, h4, h8, h9, h10, h11, ht⟩
        have HOT := Lib.hid hot
        have HU := Lib.hid hu
        have HOK := Lib.hid hok
        clear hot hu hok
        by_cases ht8 : t < 8
        · have hd : decide ((t : Int) < 8) = true := by simp; omega
          have hw := wrap_succ (m := 8) ht8 (by unfold maxL; omega)
          repeat' (first | refine goS ?_ | refine go2 (fun hh => ?_) (fun hh => ?_) | fail)
          refine W.loopN es.length (fun k F => ∃ e lm u o2, F = Fr.mk 58 false e lm hz [] none ∧ o2 = rfTurn off hs st bx t out k ∧ isB u o2 ∧ okB st.length o2 ∧
            lm.get 3 = some (0, [ca, .int .i64 off]) ∧ lm.get 4 = some (0, [sa, .int .i64 cxl, .int .i64 cxh, .int .i64 cyl, .int .i64 cyh, .int .i64 wxl, .int .i64 wxh, .int .i64 wyl, .int .i64 wyh, ra]) ∧ e.get 2 = some (.int .i64 ↑n) ∧ e.get 3 = some (.lptr 3 0 0) ∧ e.get 4 = some (.lptr 4 0 0) ∧ e.get 8 = some u ∧ e.get 9 = some (.bool o2.isSome) ∧ e.get 10 = some (.vslice es) ∧ e.get 11 = some (.int .i64 ↑t) ∧ e.get 12 = some (.int .i64 ↑k) ∧ k ≤ es.length) ?_ ?_
          · refine ⟨_, _, u, out, rfl, rfl, HU.out, HOK.out, ?_, ?_, ?_, ?_, ?_, ?_, ?_, ?_, ?_, ?_, ?_⟩ <;> first | exact Z2 | simp [go_sem, *]
          clear l3 l4 h2 h3 h4 h8 h9 h10 h11 hd HU HOK
          rintro k F ⟨e, lm, u, o2, rfl, hot2, hu, hok, l3, l4, h2, h3, h4, h8, h9, h10, h11, h12, hk⟩
          have HOT2 := Lib.hid hot2
          have HU := Lib.hid hu
          have HOK := Lib.hid hok
          have ou := isB_out hu
          have tu := isB_tup hu
          simp only [isTuple] at tu
          clear hot2 hu hok
          by_cases hkl : k < es.length
          · have hd : decide ((k : Int) < (es.length : Int)) = true := by simpa using hkl
            have hw2 := wrap_succ (m := es.length) hkl (by have := HES.out; unfold maxL; omega)
            obtain ⟨r, hr⟩ := get_some hkl
            obtain ⟨p, hp⟩ := get_some (show k < (lev st.length st.length).length by rw [← HEL.out.1]; exact hkl)
            have hBr : Blt hz r 1 (natsV p) := HEL.out.2 k r p hr hp
            have hpm := List.mem_of_getElem? hp
            have hpl := lev_len _ p hpm
            have hpn := (lev_ord (p := p) _ p hpm).2
            have hix : indexAddrV Tryz.prog hz 194 (.vslice es) (.int .i64 ↑k) = some (.vptr [r]) := by
              have : idxV (.int .i64 (k : Int)) es.length = some k := by simp [idxV, hkl]
              simp only [indexAddrV, Tryz.underlying194, ty_lay39, this, hr, hBr.cells, List.length_cons, List.length_nil, Nat.zero_add, if_true]
            have cr := hBr.cells
            have orr := hBr.out
            have tr := hBr.tup
            simp only [AV.cells] at cr
            simp only [isTuple] at tr
            have hsee : SeeV hz intC r (p.map fun k : Nat => (k : Int)) := by
              have hb := hBr
              rw [natsV_ints] at hb
              exact ⟨_, hb.view (enc_pur intC _), slV_slN (by rw [List.length_map, hpl]; have := HN4.out; unfold maxL; omega)⟩
            have hnat : natsOf (p.map fun k : Nat => (k : Int)) = p := by unfold natsOf; rw [List.map_map]; exact List.map_id' p
            have hokO : okOrd st.length (p.map fun k : Nat => (k : Int)) = true := by
              unfold okOrd
              rw [List.all_map, List.all_eq_true]
              intro x hx
              have := hpn x hx
              simp only [Function.comp, Bool.and_eq_true, decide_eq_true_eq]
              omega
            have k130 := HK.out r _ t ht8 hz hsee ⟨HHS.out, by rw [List.length_map, hpl], hokO⟩
            rw [hnat] at k130
            have hnx := rfTurn_next (off := off) (hs := hs) (b := bx) (t := t) (out := out) hp
            rw [← HOT2.out] at hnx
            unfold rfStep at hnx
            have HLEN := Lib.hid (fun l (h : rfGo off t hs st p bx st.length = some l) => rfGo_len h)
            generalize rfGo off t hs st p bx st.length = go at *
            clear hr hp hBr hpm hpl hpn hsee hnat hokO
            cases go with
            | none =>
              simp only [rfT] at k130
              simp only at hnx
              have HK130 := Lib.hid k130
              have HNX := Lib.hid hnx
              clear k130 hnx hk
              repeat' (first | (refine WO1.gund rfl rfl ?_ ?_; exact Z2; simp only [pM, pN]) | (apply W.drawQ (id := 10) (l1 := [0, 1, 2, 3, 4, 5, 6, 7, 8, 9, 10, 11, 12, 13]) (l2 := []); kernel_rfl; kernel_rfl; kernel_rfl; exact Z4) | refine go1 ?_ | (apply U6; exact Z1; exact Z1; (focus (simp only [List.nil_append, List.append_nil]; first | exact HK130.out)); simp only [pM, pN, rR, rP]) | refine go2 (fun hh => ?_) (fun hh => ?_) | fail)
              refine ⟨hkl, _, _, u, o2, rfl, HNX.out.symm, HU.out, HOK.out, ?_, ?_, ?_, ?_, ?_, ?_, ?_, ?_, ?_, ?_, by omega⟩
              all_goals exact Z2
            | some l =>
              simp only [rfT] at k130
              simp only at hnx
              have hll : l.length = st.length := HLEN.out l rfl
              have hsl : slV ptC (slN (l.map ptC.enc)) = some l := slV_slN (by rw [hll]; have := HN4.out; unfold maxL; omega)
              generalize slN (l.map ptC.enc) = lv at *
              have ol := sl_out hsl
              obtain ⟨nl, tl⟩ := sl_one hsl
              have HK130 := Lib.hid k130
              have HLL := Lib.hid hll
              have HSL := Lib.hid hsl
              clear k130 hll hsl
              cases o2 with
              | none =>
                simp only [bstep] at hnx
                simp only [Option.isSome_none] at h9
                have HNX := Lib.hid hnx
                clear hnx hk
                repeat' (first | (refine WO1.gund rfl rfl ?_ ?_; exact Z2; simp only [pM, pN]) | (apply W.drawQ (id := 10) (l1 := [0, 1, 2, 3, 4, 5, 6, 7, 8, 9, 10, 11, 12, 13]) (l2 := []); kernel_rfl; kernel_rfl; kernel_rfl; exact Z4) | refine go1 ?_ | (apply U6; exact Z1; exact Z1; (focus (simp only [List.nil_append, List.append_nil]; first | exact HK130.out)); simp only [pM, pN, rR, rP]) | refine go2 (fun hh => ?_) (fun hh => ?_) | fail)
                refine ⟨hkl, _, _, lv, some l, rfl, HNX.out.symm, HSL.out, (fun l' e => by cases e; exact HLL.out), ?_, ?_, ?_, ?_, ?_, ?_, ?_, ?_, ?_, ?_, by omega⟩
                all_goals (simp only [Option.isSome_some, go_sem, *, Nat.reduceLT, Int.reduceEq, Int.reduceBEq, Int.reduceLE, Int.reduceLT, Nat.reduceAdd, Nat.reduceBEq, Nat.reduceEqDiff, reduceIte, Nat.reduceLeDiff, Nat.reduceMul, Nat.reduceSub, reduceCtorEq]; done)
              | some y =>
                simp only [bstep] at hnx
                simp only [Option.isSome_some] at h9
                have hyl : y.length = st.length := HOK.out y rfl
                have k61 := K61 (X := dX cIP) rfl lv u sa l y st HSL.out HU.out HL.out ⟨by rw [HLL.out]; exact Nat.le_refl _, by rw [hyl]; exact Nat.le_refl _, by have := HN4.out; omega⟩ hz
                generalize betB l y st = bb at *
                have HK61 := Lib.hid k61
                clear k61 hyl
                cases bb with
                | true =>
                  simp only [if_true] at hnx
                  have HNX := Lib.hid hnx
                  clear hnx hk
                  repeat' (first | (refine WO1.gund rfl rfl ?_ ?_; exact Z2; simp only [pM, pN]) | (apply W.drawQ (id := 10) (l1 := [0, 1, 2, 3, 4, 5, 6, 7, 8, 9, 10, 11, 12, 13]) (l2 := []); kernel_rfl; kernel_rfl; kernel_rfl; exact Z4) | refine go1 ?_ | (apply U6; exact Z1; exact Z1; (focus (simp only [List.nil_append, List.append_nil]; first | exact HK130.out | exact HK61.out)); simp only [pM, pN, rR, rP]) | refine go2 (fun hh => ?_) (fun hh => ?_) | fail)
                  refine ⟨hkl, _, _, lv, some l, rfl, HNX.out.symm, HSL.out, (fun l' e => by cases e; exact HLL.out), ?_, ?_, ?_, ?_, ?_, ?_, ?_, ?_, ?_, ?_, by omega⟩
                  all_goals (simp only [Option.isSome_some, go_sem, *, Nat.reduceLT, Int.reduceEq, Int.reduceBEq, Int.reduceLE, Int.reduceLT, Nat.reduceAdd, Nat.reduceBEq, Nat.reduceEqDiff, reduceIte, Nat.reduceLeDiff, Nat.reduceMul, Nat.reduceSub, reduceCtorEq]; done)
                | false =>
                  simp only [Bool.false_eq_true, if_false] at hnx
                  have HNX := Lib.hid hnx
                  clear hnx hk
                  repeat' (first | (refine WO1.gund rfl rfl ?_ ?_; exact Z2; simp only [pM, pN]) | (apply W.drawQ (id := 10) (l1 := [0, 1, 2, 3, 4, 5, 6, 7, 8, 9, 10, 11, 12, 13]) (l2 := []); kernel_rfl; kernel_rfl; kernel_rfl; exact Z4) | refine go1 ?_ | (apply U6; exact Z1; exact Z1; (focus (simp only [List.nil_append, List.append_nil]; first | exact HK130.out | exact HK61.out)); simp only [pM, pN, rR, rP]) | refine go2 (fun hh => ?_) (fun hh => ?_) | fail)
                  refine ⟨hkl, _, _, u, some y, rfl, HNX.out.symm, HU.out, HOK.out, ?_, ?_, ?_, ?_, ?_, ?_, ?_, ?_, ?_, ?_, by omega⟩
                  all_goals (simp only [Option.isSome_some, go_sem, *, Nat.reduceLT, Int.reduceEq, Int.reduceBEq, Int.reduceLE, Int.reduceLT, Nat.reduceAdd, Nat.reduceBEq, Nat.reduceEqDiff, reduceIte, Nat.reduceLeDiff, Nat.reduceMul, Nat.reduceSub, reduceCtorEq]; done)
          · have hd : decide ((k : Int) < (es.length : Int)) = false := by simpa using hkl
            have hke : k = (lev st.length st.length).length := by rw [← HEL.out.1]; omega
            have hto : o2 = rfTo off hs st bx (t + 1) := by rw [HOT2.out, hke, rfTo_succ, ← HOT.out]
            have HTO := Lib.hid hto
            clear hke hto hkl hk
            repeat' (first | refine goS ?_ | refine go2 (fun hh => ?_) (fun hh => ?_) | fail)
            refine ⟨ht8, _, _, u, o2, rfl, HTO.out, HU.out, HOK.out, ?_, ?_, ?_, ?_, ?_, ?_, ?_, ?_, ?_, by omega⟩
            all_goals exact Z2
        · have hd : decide ((t : Int) < 8) = false := by simp; omega
          have htt : t = 8 := by omega
          have hor : out = res := by rw [HOT.out, htt, HRES.out]
          subst hor
          have ou := isB_out HU.out
          have tu := isB_tup HU.out
          simp only [isTuple] at tu
          clear htt ht ht8
          cases out with
          | none =>
            have hu : u = .nilslice := HU.out
            subst hu
            simp only [r58V]
            simp only [Option.isSome_none] at h9
            repeat' (first | refine goS ?_ | refine go2 (fun hh => ?_) (fun hh => ?_) | fail)
            all_goals simp only [resV_def (X := dX cIP) Tryz.func58, Tryz.results58, resultsV, resultV, go_sem, *, Nat.reduceLT, Int.reduceEq, Int.reduceBEq, Int.reduceLE, Int.reduceLT, Nat.reduceAdd, Nat.reduceBEq, Nat.reduceEqDiff, reduceIte, Nat.reduceLeDiff, Nat.reduceMul, Nat.reduceSub, reduceCtorEq, frzRes, dFrz, frzCells, isRet_ret, tupleOf]
          | some l =>
            have hln : l.length = st.length := HOK.out l rfl
            have hn0 : l ≠ [] := fun e => by
              have := HN2.out
              rw [e] at hln
              simp at hln
              omega
            have hu : u = slN (l.map ptC.enc) := by
              rcases (slV_is (show slV ptC u = some l from HU.out)).1 with ⟨_, e⟩ | e
              · exact absurd (by simpa using e) hn0
              · rw [e]
                cases l with
                | nil => exact absurd rfl hn0
                | cons p l => rfl
            simp only [r58V]
            have hfz : ∀ H : Heap, frz2 H u = some (u, H) := fun H => by rw [hu]; exact (slN_is _).frz2 H
            rw [← hu]
            simp only [Option.isSome_some] at h9
            clear hu hn0 hln
            repeat' (first | refine goS ?_ | refine go2 (fun hh => ?_) (fun hh => ?_) | fail)
            all_goals simp only [resV_def (X := dX cIP) Tryz.func58, Tryz.results58, resultsV, resultV, go_sem, *, Nat.reduceLT, Int.reduceEq, Int.reduceBEq, Int.reduceLE, Int.reduceLT, Nat.reduceAdd, Nat.reduceBEq, Nat.reduceEqDiff, reduceIte, Nat.reduceLeDiff, Nat.reduceMul, Nat.reduceSub, reduceCtorEq, frzRes, dFrz, frzCells, isRet_ret, tupleOf]
      · cases h
    · cases h
  · cases h
theorem K58 {X : Ctx} (hX : X.intr 58 = some (pureFn sp58)) (ca sa ra : AV) (hs st : List Pt) (rs : List Rdg) (cx cy wx wy : Sp) (a b : List Sp) (off : Int) (n : Nat) (hc : slV ptC ca = some hs) (hl : slV ptC sa = some st) (hr : slV rdgC ra = some rs) (hA : boundsS (ax0 cx wx rs []) = some a) (hB : boundsS (ax1 cy wy rs []) = some b) (hm : machB st cx cy wx wy rs = true) (hn : inB (n : Int) 1 12 = true) (hg : hs.length = st.length) (h : Heap) :
    Cl X 58 [.agg [ca, .int .i64 off], .agg [sa, .int .i64 cx.lo, .int .i64 cx.hi, .int .i64 cy.lo, .int .i64 cy.hi, .int .i64 wx.lo, .int .i64 wx.hi, .int .i64 wy.lo, .int .i64 wy.hi, ra], .int .i64 n] h (.ret (r58V (bestP st (rfAll off hs st (boxH a b n)))) h none) :=
  Cl.intr hX (by simp [pureFn, AV.pur, AV.purL, sl_pur hc, sl_pur hl, sl_pur hr, sp58, hc, hl, hr, hA, hB, hm, hn, hg])
end Go.AM
set_option linter.unusedSectionVars false
set_option linter.unusedVariables false
set_option linter.unusedSimpArgs false
set_option maxRecDepth 100000
namespace Go.AM
open Go Go.Proofs
variable [Keep]
attribute [local irreducible] W WO WO1 WD WQ WT thenQ blockQ endR isRet retK Cl ClR
attribute [local irreducible] matchS boundsS machB measB sureW goodB
def heldI (hs st : List Pt) (off : Int) (m : Bool) (p : Bool) (bl : Bool) : Int := if measB hs off && m && decide (hs.length = st.length) && bl then (if p then 0 else 7) else 2
def sp44 : List AV → Option AV
  | [.agg [ca, .int .i64 off], .agg [sa, .int .i64 cxl, .int .i64 cxh, .int .i64 cyl, .int .i64 cyh, .int .i64 wxl, .int .i64 wxh, .int .i64 wyl, .int .i64 wyh, ra], .int .i64 blank, .int .i64 from'] => match slV ptC ca, slV ptC sa, slV rdgC ra with
    | some hs, some st, some rs => some (.int .i64 (heldI hs st off (machB st ⟨cxl, cxh⟩ ⟨cyl, cyh⟩ ⟨wxl, wxh⟩ ⟨wyl, wyh⟩ rs) ((boundsS (ax0 ⟨cxl, cxh⟩ ⟨wxl, wxh⟩ rs [])).isSome && (boundsS (ax1 ⟨cyl, cyh⟩ ⟨wyl, wyh⟩ rs [])).isSome) (inB blank from' 12)))
    | _, _, _ => none
  | _ => none
theorem p44 : ∀ args v, sp44 args = some v → v.pur = true := by
  intro args v h
  unfold sp44 at h
  split at h
  · split at h
    · have h := Option.some.inj h
      subst h
      rfl
    · cases h
  · cases h
noncomputable def cGS : FuncId → Option (List AV → Heap → Option (AV × Heap))
  | 31 => some (pureFn sp31)
  | 40 => some (pureFn sp40)
  | 41 => some (pureFn sp41)
  | 71 => some (flatFn sp71)
  | _ => none
theorem cGS_sound : Sound (dX cGS) := dX_sound (fun f g h => by
  unfold cGS at h
  split at h
  · cases h; exact F31
  · cases h; exact F40
  · cases h; exact F41
  · cases h; exact F71
  · cases h)
set_option maxHeartbeats 4000000 in
theorem F44 : IntrFn Tryz.prog 44 (pureFn sp44) := by
  refine pure_fn (X := dX cGS) cGS_sound p44 ?_
  intro args v h
  unfold sp44 at h
  split at h
  · rename_i ca off sa cxl cxh cyl cyh wxl wxh wyl wyh ra blank fr
    split at h
    · rename_i hs st rs hc hl hr
      have h := Option.some.inj h
      subst h
      have o1 := sl_out hc
      have o2 := sl_out hl
      have o3 := sl_out hr
      have l1 := sl_len hc
      have l2 := sl_len hl
      obtain ⟨one1, t1⟩ := sl_one hc
      obtain ⟨one2, t2⟩ := sl_one hl
      obtain ⟨one3, t3⟩ := sl_one hr
      have k31 : ∀ h, Cl (dX cGS) 31 [.agg [ca, .int .i64 off]] h (.ret (.bool (measB hs off)) h none) := fun h => Cl.intr (g := pureFn sp31) rfl (by simp [pureFn, AV.pur, AV.purL, sl_pur hc, sp31, hc])
      have k71 : ∀ h, Cl (dX cGS) 71 [.agg [sa, .int .i64 cxl, .int .i64 cxh, .int .i64 cyl, .int .i64 cyh, .int .i64 wxl, .int .i64 wxh, .int .i64 wyl, .int .i64 wyh, ra]] h (.ret (.bool (machB st ⟨cxl, cxh⟩ ⟨cyl, cyh⟩ ⟨wxl, wxh⟩ ⟨wyl, wyh⟩ rs)) h none) := fun h => by
        have := K71 (X := dX cGS) rfl sa ra st rs ⟨cxl, cxh⟩ ⟨cyl, cyh⟩ ⟨wxl, wxh⟩ ⟨wyl, wyh⟩ hl hr h
        rw [machR_B] at this
        exact this
      have k41 : ∀ h, Cl (dX cGS) 41 [.int .i64 blank, .int .i64 fr] h (.ret (.bool (inB blank fr 12)) h none) := fun h => Cl.intr (g := pureFn sp41) rfl rfl
      have k40 : ∀ h, Cl (dX cGS) 40 [.agg [sa, .int .i64 cxl, .int .i64 cxh, .int .i64 cyl, .int .i64 cyh, .int .i64 wxl, .int .i64 wxh, .int .i64 wyl, .int .i64 wyh, ra]] h (.ret (.int .i64 (ableI (machB st ⟨cxl, cxh⟩ ⟨cyl, cyh⟩ ⟨wxl, wxh⟩ ⟨wyl, wyh⟩ rs) ((boundsS (ax0 ⟨cxl, cxh⟩ ⟨wxl, wxh⟩ rs [])).isSome && (boundsS (ax1 ⟨cyl, cyh⟩ ⟨wyl, wyh⟩ rs [])).isSome))) h none) := fun h => Cl.intr (g := pureFn sp40) rfl (by simp [pureFn, AV.pur, AV.purL, sl_pur hl, sl_pur hr, sp40, hl, hr])
      have HH := Lib.hid (show ∀ m p bl, heldI hs st off m p bl = (if measB hs off && m && decide (hs.length = st.length) && bl then (if p then 0 else 7) else 2) from fun _ _ _ => rfl)
      generalize ((boundsS (ax0 ⟨cxl, cxh⟩ ⟨wxl, wxh⟩ rs [])).isSome && (boundsS (ax1 ⟨cyl, cyh⟩ ⟨wyl, wyh⟩ rs [])).isSome) = pb at *
      generalize machB st ⟨cxl, cxh⟩ ⟨cyl, cyh⟩ ⟨wxl, wxh⟩ ⟨wyl, wyh⟩ rs = b2 at *
      generalize inB blank fr 12 = b4 at *
      generalize hres : heldI hs st off b2 pb b4 = res
      have hr2 := hres.symm.trans (HH.out b2 pb b4)
      generalize measB hs off = b1 at *
      have HR := Lib.hid hr2
      have hcase : (b1 = false) ∨ (b1 = true ∧ b2 = false) ∨ (b1 = true ∧ b2 = true ∧ ((hs.length : Int) != (st.length : Int)) = true) ∨ (b1 = true ∧ b2 = true ∧ ((hs.length : Int) != (st.length : Int)) = false ∧ b4 = false) ∨ (b1 = true ∧ b2 = true ∧ ((hs.length : Int) != (st.length : Int)) = false ∧ b4 = true) := by
        cases b1 <;> cases b2 <;> cases b4 <;> cases ((hs.length : Int) != (st.length : Int)) <;> simp
      clear hc hl hr hres hr2 HH
      refine ClR.walk (c := _) rfl Tryz.func44 rfl (by kernel_rfl) rfl isRet_fail ?_
      simp only [entryEnv, Nat.reduceAdd, emptyHp]
      rcases hcase with q1 | ⟨q1, q2⟩ | ⟨q1, q2, q3⟩ | ⟨q1, q2, q3, q4⟩ | ⟨q1, q2, q3, q4⟩
      case inr.inr.inr.inr =>
        have hlen : decide (hs.length = st.length) = true := by
          have := q3
          simp at this ⊢
          omega
        have hrs : res = if pb then 0 else 7 := by rw [HR.out, q1, q2, hlen, q4]; rfl
        have HRS := Lib.hid hrs
        subst q1 q2 q4
        simp only [ableI, if_true] at k40
        clear HR hlen hrs
        generalize (if pb = true then (0 : Int) else 7) = w at *
        repeat' (first | refine goS ?_ | (apply U6; exact Z1; exact Z1; (focus (simp only [List.nil_append, List.append_nil]; first | exact k31 _ | exact k71 _ | exact k41 _ | exact k40 _)); simp only [pM, pN, rR, rP]) | refine go2 (fun hh => ?_) (fun hh => ?_) | fail)
        all_goals simp only [resV_def (X := dX cGS) Tryz.func44, Tryz.results44, resultsV, resultV, go_sem, *, Nat.reduceLT, Int.reduceEq, Int.reduceBEq, Int.reduceLE, Int.reduceLT, Nat.reduceAdd, Nat.reduceBEq, Nat.reduceEqDiff, reduceIte, Nat.reduceLeDiff, Nat.reduceMul, Nat.reduceSub, reduceCtorEq, frzRes, dFrz, frzCells, isRet_ret, tupleOf]
        rw [HRS.out]
      all_goals (
        have hrs : res = 2 := by
          rw [HR.out]
          first
            | (rw [q1]; rfl)
            | (rw [q1, q2]; rfl)
            | (have hlen : decide (hs.length = st.length) = false := by
                have := q3
                simp at this ⊢
                omega
               rw [q1, q2, hlen]; rfl)
            | (rw [q4]; simp)
        rw [hrs]
        clear HR hrs k40
        subst q1
        repeat' (first | refine goS ?_ | (apply U6; exact Z1; exact Z1; (focus (simp only [List.nil_append, List.append_nil]; first | exact k31 _ | exact k71 _ | exact k41 _)); simp only [pM, pN, rR, rP]) | refine go2 (fun hh => ?_) (fun hh => ?_) | fail)
        all_goals simp only [resV_def (X := dX cGS) Tryz.func44, Tryz.results44, resultsV, resultV, go_sem, *, Nat.reduceLT, Int.reduceEq, Int.reduceBEq, Int.reduceLE, Int.reduceLT, Nat.reduceAdd, Nat.reduceBEq, Nat.reduceEqDiff, reduceIte, Nat.reduceLeDiff, Nat.reduceMul, Nat.reduceSub, reduceCtorEq, frzRes, dFrz, frzCells, isRet_ret, tupleOf])
    · cases h
  · cases h
end Go.AM
set_option linter.unusedSectionVars false
set_option linter.unusedVariables false
set_option linter.unusedSimpArgs false
set_option maxRecDepth 100000
namespace Go.AM
open Go Go.Proofs
variable [Keep]
attribute [local irreducible] W WO WO1 WD WQ WT thenQ blockQ endR isRet retK Cl ClR
attribute [local irreducible] matchS boundsS machB measB sureW goodB askOk heldI
theorem held_ask (hs st : List Pt) (off : Int) (m p bl : Bool) : heldI hs st off m p bl = if askOk hs st off m bl then (if p then 0 else 7) else 2 := by
  unfold heldI askOk
  have : decide (hs.length = st.length) = decide (st.length = hs.length) := by
    rw [Bool.eq_iff_iff]
    simp
    omega
  rw [this]
end Go.AM
set_option linter.unusedSectionVars false
set_option linter.unusedVariables false
set_option linter.unusedSimpArgs false
set_option maxRecDepth 100000
namespace Go.AM
open Go Go.Proofs
variable [Keep]
attribute [local irreducible] W WO WO1 WD WQ WT thenQ blockQ endR isRet retK Cl ClR
attribute [local irreducible] matchS boundsS machB measB askOk heldI rsAll rfAll bestP bestTo
noncomputable def c11 : FuncId → Option (List AV → Heap → Option (AV × Heap))
  | 29 => some (flatFn sp29)
  | 38 => some (pureFn sp38)
  | 44 => some (pureFn sp44)
  | 57 => some (pureFn sp57)
  | 58 => some (pureFn sp58)
  | 59 => some (pureFn sp59)
  | f => c25 cK f
theorem mach_pts {st : List Pt} {cx cy wx wy : Sp} {rs : List Rdg} (h : machB st cx cy wx wy rs = true) : st.all (okPt 80) = true := by
  unfold machB at h
  simp only [Bool.and_eq_true, decide_eq_true_eq] at h
  have h1 : allB st 2 20 = true := by simp only [h]
  rw [allB_P] at h1
  simp only [pointsB, Bool.and_eq_true] at h1
  rw [List.all_eq_true] at h1 ⊢
  intro p hp
  have h2 := h1.1 p hp
  have e : w64 (-20) = -20 := rfl
  simp only [okPt, inB, e, Bool.and_eq_true, decide_eq_true_eq] at h2
  exact ok80.2 ⟨⟨by omega, by omega⟩, ⟨by omega, by omega⟩⟩
theorem okL_of {st : List Pt} (h : st.all (okPt 80) = true) : okL st := by
  intro j
  rw [List.getD]
  cases q : st[j]? with
  | none => exact ok80.2 (by simp)
  | some p => exact List.all_eq_true.1 h p (List.mem_of_getElem? q)
theorem fold_mem (l : List Rs) : ∀ a : Rs, l.foldl (fun out x => if betR x out then x else out) a ∈ a :: l := by
  induction l with
  | nil => intro a; simp
  | cons x l ih =>
    intro a
    cases q : betR x a with
    | true =>
      simp only [List.foldl_cons, q, if_true]
      have := ih x
      simp only [List.mem_cons] at this ⊢
      rcases this with e | e
      · exact .inr (.inl e)
      · exact .inr (.inr e)
    | false =>
      simp only [List.foldl_cons, q, Bool.false_eq_true, if_false]
      have := ih a
      simp only [List.mem_cons] at this ⊢
      rcases this with e | e
      · exact .inl e
      · exact .inr (.inr e)
theorem bestTo_mem {l : List Rs} (h : l ≠ []) : bestTo l ∈ l := by
  cases l with
  | nil => exact absurd rfl h
  | cons r l => unfold bestTo; exact fold_mem l r
theorem rsAll_len {off : Int} {hs st : List Pt} {b : Bx} : ∀ r ∈ rsAll off hs st b, r.st.length = st.length := by
  intro r hr
  unfold rsAll at hr
  obtain ⟨t, _, h⟩ := List.mem_flatMap.1 hr
  obtain ⟨o, _, ho⟩ := List.mem_filterMap.1 h
  exact rsGo_len ho
theorem resets_same {hs st : List Pt} {off : Int} {cx cy wx wy : Sp} {rs : List Rdg} {fine : Bool} (h : askOk hs st off (machB st cx cy wx wy rs) fine = true) (b : Bx) :
    (rsAll off hs st b = [] ∧ bestP st (rfAll off hs st b) = none) ∨ (rsAll off hs st b ≠ [] ∧ bestP st (rfAll off hs st b) = some (bestTo (rsAll off hs st b)).st ∧ (bestTo (rsAll off hs st b)).st.length = st.length ∧ (manyP (bestTo (rsAll off hs st b)).st st).1 = (bestTo (rsAll off hs st b)).n) := by
  unfold askOk at h
  simp only [Bool.and_eq_true, decide_eq_true_eq] at h
  obtain ⟨⟨⟨h1, h2⟩, h3⟩, _⟩ := h
  have hh := (meas_ok h1).1
  have hst := okL_of (mach_pts h2)
  have hn := (mach_small h2).2.1
  have key := reset_law (off := off) (hs := hs) (st := st) (b := b) (fun p hp => List.all_eq_true.1 hh p hp) hst hn
  by_cases q : rsAll off hs st b = []
  · rw [if_pos q] at key
    exact .inl ⟨q, key⟩
  · rw [if_neg q] at key
    have hm := bestTo_mem q
    exact .inr ⟨q, key, rsAll_len _ hm, by rw [rsAll_many hst hn _ hm]⟩
theorem pts_ne {l st : List Pt} (h : l.length = st.length) (hn : 2 ≤ st.length) : l ≠ [] := fun e => by
  rw [e] at h
  simp at h
  omega
set_option maxHeartbeats 8000000 in
theorem T11 (ca sa ra : AV) (off blank : Int) (cx cy wx wy : Sp) (hs st : List Pt) (rs : List Rdg) (hc : isSl ca (hs.map ptC.enc)) (hl : isSl sa (st.map ptC.enc)) (hr : isSl ra (rs.map rdgC.enc)) :
    ClR (dX c11) 11 [.agg [ca, .int .i64 off], .agg [sa, .int .i64 cx.lo, .int .i64 cx.hi, .int .i64 cy.lo, .int .i64 cy.hi, .int .i64 wx.lo, .int .i64 wx.hi, .int .i64 wy.lo, .int .i64 wy.hi, ra], .int .i64 blank] emptyHp (isRet (.bool true)) := by
  have o1 := hc.out
  have o2 := hl.out
  have o3 := hr.out
  have t1 := hc.tup
  have t2 := hl.tup
  have t3 := hr.tup
  have hp1 := hl.pur (enc_pur ptC st)
  have hp2 := hr.pur (enc_pur rdgC rs)
  have ln1 : lenS ca = some hs.length := by rw [hc.len, List.length_map]
  have k25 : ∀ h, Cl (dX c11) 25 [] h (.ret (.bool true) h none) := fun h => K25 rfl h
  have K38 : ∀ h, Cl (dX c11) 38 [.agg [sa, .int .i64 cx.lo, .int .i64 cx.hi, .int .i64 cy.lo, .int .i64 cy.hi, .int .i64 wx.lo, .int .i64 wx.hi, .int .i64 wy.lo, .int .i64 wy.hi, ra]] h (.ret (.bool (decide ((st.length : Int) ≤ 6) && decide ((rs.length : Int) ≤ 6))) h none) := fun h => by
    have h1 := slLen_mk hl
    have h2 := slLen_mk hr
    exact Cl.intr (g := pureFn sp38) rfl (by simp [pureFn, AV.pur, AV.purL, hp1, hp2, sp38, h1, h2])
  by_cases g : (decide ((st.length : Int) ≤ 6) && decide ((rs.length : Int) ≤ 6)) = true ∧ decide ((hs.length : Int) > 6) = false
  · obtain ⟨ga, gb⟩ := g
    have k38 := K38
    rw [ga] at k38
    have g1 := ga
    simp only [Bool.and_eq_true, decide_eq_true_eq] at g1
    have g2 := gb
    simp only [decide_eq_false_iff_not] at g2
    have v1 : slV ptC ca = some hs := slV_mk hc (by unfold maxL; omega)
    have v2 : slV ptC sa = some st := slV_mk hl (by unfold maxL; omega)
    have v3 : slV rdgC ra = some rs := slV_mk hr (by unfold maxL; omega)
    have k57' : ∀ h, Cl (dX c11) 57 [.agg [ca, .int .i64 off], .agg [sa, .int .i64 cx.lo, .int .i64 cx.hi, .int .i64 cy.lo, .int .i64 cy.hi, .int .i64 wx.lo, .int .i64 wx.hi, .int .i64 wy.lo, .int .i64 wy.hi, ra], .int .i64 blank] h (.ret (resetV (askOk hs st off (machB st cx cy wx wy rs) (inB blank 1 12)) (boundsS (ax0 cx wx rs [])) (boundsS (ax1 cy wy rs [])) off hs st blank.toNat) h none) := fun h => Cl.intr (g := pureFn sp57) rfl (by simp [pureFn, AV.pur, AV.purL, sl_pur v1, hp1, hp2, sp57, v1, v2, v3])
    have k44' : ∀ h, Cl (dX c11) 44 [.agg [ca, .int .i64 off], .agg [sa, .int .i64 cx.lo, .int .i64 cx.hi, .int .i64 cy.lo, .int .i64 cy.hi, .int .i64 wx.lo, .int .i64 wx.hi, .int .i64 wy.lo, .int .i64 wy.hi, ra], .int .i64 blank, .int .i64 1] h (.ret (.int .i64 (heldI hs st off (machB st cx cy wx wy rs) ((boundsS (ax0 cx wx rs [])).isSome && (boundsS (ax1 cy wy rs [])).isSome) (inB blank 1 12))) h none) := fun h => Cl.intr (g := pureFn sp44) rfl (by simp [pureFn, AV.pur, AV.purL, sl_pur v1, hp1, hp2, sp44, v1, v2, v3])
    rw [held_ask] at k44'
    have k58' : ∀ a b, boundsS (ax0 cx wx rs []) = some a → boundsS (ax1 cy wy rs []) = some b → askOk hs st off (machB st cx cy wx wy rs) (inB blank 1 12) = true → ∀ h, Cl (dX c11) 58 [.agg [ca, .int .i64 off], .agg [sa, .int .i64 cx.lo, .int .i64 cx.hi, .int .i64 cy.lo, .int .i64 cy.hi, .int .i64 wx.lo, .int .i64 wx.hi, .int .i64 wy.lo, .int .i64 wy.hi, ra], .int .i64 blank] h (.ret (r58V (bestP st (rfAll off hs st (boxH a b blank.toNat)))) h none) := fun a b hA hB hok h => by
      unfold askOk at hok
      simp only [Bool.and_eq_true, decide_eq_true_eq] at hok
      obtain ⟨⟨⟨h1, h2⟩, h3⟩, h4⟩ := hok
      have hin := h4
      simp only [inB, Bool.and_eq_true, decide_eq_true_eq] at hin
      have := K58 (X := dX c11) rfl ca sa ra hs st rs cx cy wx wy a b off blank.toNat v1 v2 v3 hA hB h2 (by rw [Int.toNat_of_nonneg (by omega)]; exact h4) h3.symm h
      rw [Int.toNat_of_nonneg (by omega)] at this
      exact this
    have hsame := fun (b : Bx) (h : askOk hs st off (machB st cx cy wx wy rs) (inB blank 1 12) = true) => resets_same h b
    have hsmall : askOk hs st off (machB st cx cy wx wy rs) (inB blank 1 12) = true → 2 ≤ st.length ∧ st.length ≤ 4 := fun h => by
      unfold askOk at h
      simp only [Bool.and_eq_true, decide_eq_true_eq] at h
      have := mach_small h.1.1.2
      exact ⟨this.1, this.2.1⟩
    have b20 : ((2 : Int) != 0) = true := rfl
    have b70 : ((7 : Int) != 0) = true := rfl
    have b00 : ((0 : Int) != 0) = false := rfl
    have b22 : ((2 : Int) == 2) = true := rfl
    have b77 : ((7 : Int) == 7) = true := rfl
    have b55 : ((5 : Int) == 5) = true := rfl
    have e00 : ((0 : Int) == 0) = true := rfl
    have z00 : (((0 : Nat) : Int) == 0) = true := rfl
    have tt : (true && true) = true := rfl
    have HV2 := Lib.hid v2
    clear hc hl hr hp1 hp2 v1 v2 v3 K38 ga g1 g2
    generalize askOk hs st off (machB st cx cy wx wy rs) (inB blank 1 12) = ok at *
    generalize boundsS (ax0 cx wx rs []) = A at *
    generalize boundsS (ax1 cy wy rs []) = B at *
    have hcase : (∃ e, resetV ok A B off hs st blank.toNat = .tuple [.nilslice, .int .i64 0, .int .i64 e] ∧ (if ok then (if (A.isSome && B.isSome) then (0 : Int) else 7) else 2) = e ∧ (e == e) = true ∧ (e != 0) = true) ∨ (ok = true ∧ ∃ a b, A = some a ∧ B = some b) := by
      cases ok with
      | false => exact .inl ⟨2, rfl, rfl, rfl, rfl⟩
      | true =>
        cases A with
        | none => exact .inl ⟨7, rfl, rfl, rfl, rfl⟩
        | some a =>
          cases B with
          | none => exact .inl ⟨7, rfl, rfl, rfl, rfl⟩
          | some b => exact .inr ⟨rfl, a, b, rfl, rfl⟩
    refine ClR.walk (c := _) rfl Tryz.func11 rfl (by kernel_rfl) rfl isRet_fail ?_
    simp only [entryEnv, Nat.reduceAdd, emptyHp]
    rcases hcase with ⟨e, e1, e2, x1, x2⟩ | ⟨rfl, a, b, rfl, rfl⟩
    · rw [e1] at k57'
      rw [e2] at k44'
      have HK57 := Lib.hid k57'
      have k44 := k44'
      clear k57' k44' e1 e2 k58' hsame hsmall
      repeat' (first | refine goS ?_ | (apply U6; exact Z1; exact Z1; (focus (simp only [List.nil_append, List.append_nil]; first | exact k38 _ | exact k44 _ | exact HK57.out _ | exact k25 _)); simp only [pM, pN, rR, rP]) | refine go2 (fun hh => ?_) (fun hh => ?_) | fail)
      all_goals simp only [resV_def (X := dX c11) Tryz.func11, Tryz.results11, resultsV, resultV, go_sem, *, Nat.reduceLT, Int.reduceEq, Int.reduceBEq, Int.reduceLE, Int.reduceLT, Nat.reduceAdd, Nat.reduceBEq, Nat.reduceEqDiff, reduceIte, Nat.reduceLeDiff, Nat.reduceMul, Nat.reduceSub, reduceCtorEq, frzRes, dFrz, frzCells, isRet_ret, tupleOf]
    · have k58 := k58' a b rfl rfl rfl
      have hsm := hsmall rfl
      have hsa := hsame (boxH a b blank.toNat) rfl
      simp only [if_true, Option.isSome_some, Bool.and_self] at k44'
      have k44 := k44'
      simp only [resetV, if_true] at k57'
      clear k58' hsame hsmall k44'
      rcases hsa with ⟨h1, h2⟩ | ⟨h1, h2, h3, h4⟩
      · rw [if_pos h1] at k57'
        rw [h2] at k58
        simp only [r58V] at k58
        have HK57 := Lib.hid k57'
        have HK58 := Lib.hid k58
        clear k57' k58 h1 h2
        repeat' (first | refine goS ?_ | (apply U6; exact Z1; exact Z1; (focus (simp only [List.nil_append, List.append_nil]; first | exact k38 _ | exact k44 _ | exact HK57.out _ | exact HK58.out _ | exact k25 _)); simp only [pM, pN, rR, rP]) | refine go2 (fun hh => ?_) (fun hh => ?_) | fail)
        all_goals simp only [resV_def (X := dX c11) Tryz.func11, Tryz.results11, resultsV, resultV, go_sem, *, Nat.reduceLT, Int.reduceEq, Int.reduceBEq, Int.reduceLE, Int.reduceLT, Nat.reduceAdd, Nat.reduceBEq, Nat.reduceEqDiff, reduceIte, Nat.reduceLeDiff, Nat.reduceMul, Nat.reduceSub, reduceCtorEq, frzRes, dFrz, frzCells, isRet_ret, tupleOf]
      · rw [if_neg h1] at k57'
        rw [h2] at k58
        simp only [r58V] at k58
        generalize bestTo (rsAll off hs st (boxH a b blank.toNat)) = br at *
        have hne := pts_ne h3 hsm.1
        have hsl : slV ptC (slN (br.st.map ptC.enc)) = some br.st := slV_slN (by rw [h3]; unfold maxL; omega)
        have k29 := fun h => K29 (X := dX c11) rfl _ _ br.st br.st hsl hsl (by omega) (by omega) h
        rw [decide_eq_true rfl] at k29
        have k59 := fun h => K59 (X := dX c11) rfl _ sa br.st st hsl HV2.out (by omega) h
        rw [h4] at k59
        have os := sl_out hsl
        obtain ⟨ns, ts⟩ := sl_one hsl
        generalize slN (br.st.map ptC.enc) = sv at *
        generalize (manyP br.st st).2 = y at *
        generalize br.n = nn at *
        have x1 : (nn == nn) = true := by simp
        have HK57 := Lib.hid k57'
        have HK58 := Lib.hid k58
        clear k57' k58 h1 h2 h3 h4 hne hsl hsm
        repeat' (first | refine goS ?_ | (apply U6; exact Z1; exact Z1; (focus (simp only [List.nil_append, List.append_nil]; first | exact k38 _ | exact k44 _ | exact HK57.out _ | exact HK58.out _ | exact k59 _ | exact k29 _ | exact k25 _)); simp only [pM, pN, rR, rP]) | refine go2 (fun hh => ?_) (fun hh => ?_) | fail)
        all_goals simp only [resV_def (X := dX c11) Tryz.func11, Tryz.results11, resultsV, resultV, go_sem, *, Nat.reduceLT, Int.reduceEq, Int.reduceBEq, Int.reduceLE, Int.reduceLT, Nat.reduceAdd, Nat.reduceBEq, Nat.reduceEqDiff, reduceIte, Nat.reduceLeDiff, Nat.reduceMul, Nat.reduceSub, reduceCtorEq, frzRes, dFrz, frzCells, isRet_ret, tupleOf]
  · have hd : (decide ((st.length : Int) ≤ 6) && decide ((rs.length : Int) ≤ 6)) = false ∨ ((decide ((st.length : Int) ≤ 6) && decide ((rs.length : Int) ≤ 6)) = true ∧ decide ((hs.length : Int) > 6) = true) := by
      by_cases ga : (decide ((st.length : Int) ≤ 6) && decide ((rs.length : Int) ≤ 6)) = true
      · by_cases gb : decide ((hs.length : Int) > 6) = true
        · exact .inr ⟨ga, gb⟩
        · exact absurd ⟨ga, Bool.eq_false_iff.2 gb⟩ g
      · exact .inl (Bool.eq_false_iff.2 ga)
    have k38 := K38
    clear hc hl hr hp1 hp2 K38 g
    generalize (decide ((st.length : Int) ≤ 6) && decide ((rs.length : Int) ≤ 6)) = sl at *
    refine ClR.walk (c := _) rfl Tryz.func11 rfl (by kernel_rfl) rfl isRet_fail ?_
    simp only [entryEnv, Nat.reduceAdd, emptyHp]
    rcases hd with rfl | ⟨rfl, y1⟩
    all_goals (
      repeat' (first | refine goS ?_ | (apply U6; exact Z1; exact Z1; (focus (simp only [List.nil_append, List.append_nil]; first | exact k38 _ | exact k25 _)); simp only [pM, pN, rR, rP]) | refine go2 (fun hh => ?_) (fun hh => ?_) | fail)
      all_goals simp only [resV_def (X := dX c11) Tryz.func11, Tryz.results11, resultsV, resultV, go_sem, *, Nat.reduceLT, Int.reduceEq, Int.reduceBEq, Int.reduceLE, Int.reduceLT, Nat.reduceAdd, Nat.reduceBEq, Nat.reduceEqDiff, reduceIte, Nat.reduceLeDiff, Nat.reduceMul, Nat.reduceSub, reduceCtorEq, frzRes, dFrz, frzCells, isRet_ret, tupleOf])
end Go.AM
