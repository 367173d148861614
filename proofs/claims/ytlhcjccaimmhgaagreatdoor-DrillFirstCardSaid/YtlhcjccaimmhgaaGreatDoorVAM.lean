/-
  A part of the proof: contracts of functions.
-/
import Derived.Test.YtlhcjccaimmhgaaGreatDoorVAJ
import Derived.Test.YtlhcjccaimmhgaaGreatDoorVAG
set_option linter.unusedSectionVars false
set_option linter.unusedVariables false
set_option linter.unusedSimpArgs false
set_option maxRecDepth 100000
namespace Go.AM
open Go Go.Proofs
variable [Keep]
attribute [local irreducible] W WO WO1 WD WQ WT thenQ blockQ endR isRet retK Cl ClR
def okRdg (p : Rdg) : Bool := inB p.b 0 12 && okPt 80 ⟨p.x, p.y⟩ && inB p.err 0 4
noncomputable def cQ : Itr
 | 28 => some (flatFn sp28)
 | 93 => some (pureFn sp93)
 | 94 => some (flatFn sp94)
 | 97 => some (pureFn sp97)
 | 135 => some (pureFn sp135)
 | 149 => some (pureFn sp149)
 | 151 => some (pureFn sp151)
 | _ => none
theorem cQ_sound : Sound (dX cQ) := dX_sound (fun f g h => by
 unfold cQ at h
 split at h
 ·cases h; exact F28
 ·cases h; exact F93
 ·cases h; exact F94
 ·cases h; exact F97
 ·cases h; exact F135
 ·cases h; exact F149
 ·cases h; exact F151
 ·cases h)
theorem C153 (p : Rdg) (hp : Heap) : Cl (dX cQ) 153 ([] ++ [rdgC.enc p] ++ []) hp (.ret (.bool (!okRdg p)) hp none) := by
 refine ClR.cl ?_
 refine ClR.walk (c := _) rfl Tryz.func153 rfl (by kernel_rfl) rfl (fun e => by cases e) ?_
 simp only [List.nil_append, List.cons_append, rdgC, entryEnv, Nat.reduceAdd]
 repeat' (first | refine goS ?_ | (apply U6; exact Z1; exact Z1; (focus (simp only [List.nil_append, List.append_nil]; first | exact K93 rfl _ _ _ _ | exact K149 rfl ⟨_, _⟩ _ _)); simp only [pM, pN, rR, rP]) | refine go2 (fun hh => ?_) (fun hh => ?_) | fail)
 all_goals (simp only [resV_def (X := dX cQ) Tryz.func153, Tryz.results153]; first | exact J5 | refine J6 ?_)
 all_goals simp [isR, okRdg, *]
set_option maxHeartbeats 400000 in
theorem C189 (c : Itr) (hc : c 189 = none) (a : AV) (l : List Rdg) (ha : slV rdgC a = some l) (g : FuncId) (first capt : List AV) (pb : Rdg -> Bool) (h : Heap)
    (hcall : ∀ p : Rdg, p ∈ l -> Cl (dX c) g ((first ++ [rdgC.enc p]) ++ capt) h (.ret (.bool (pb p)) h none)) : Cl (dX c) 189 [a, .func (.func g) first capt] h (.ret (.int .i64 (idxOf pb l)) h none) := by
  refine ClR.cl ?_
  have hlen := sl_len ha
  have hout := sl_out ha
  have hmax := sl_max ha
  refine ClR.walk (c := _) hc Tryz.func189 rfl (by kernel_rfl) rfl (fun e => by cases e) ?_
  simp only [entryEnv, Nat.reduceAdd]
  repeat' (first | refine goS ?_ | refine go2 (fun hh => ?_) (fun hh => ?_) | fail)
  refine W.loopN l.length (fun k F => ∃ e, F = Fr.mk 189 false e .nil h [] none /\ (l.take k).all (fun x => !pb x) = true /\ e.get 0 = some a /\ e.get 1 = some (.func (.func g) first capt) /\ e.get 7 = some (.int .i64 ↑l.length) /\ e.get 8 = some (.int .i64 ↑k) /\ k <= l.length) ?_ ?_
  · refine ⟨_, rfl, ?_, ?_, ?_, ?_, ?_, ?_⟩ <;> simp [go_sem, *]
  rintro k F ⟨e, rfl, hall, h0, h1, h7, h8, hk⟩
  have HA := Lib.hid hall
  clear hall
  by_cases hlt : k < l.length
  · obtain ⟨p, hp⟩ := get_some hlt
    have hix := rdg_idx ha hp
    have hcl := hcall p (List.mem_of_getElem? hp)
    have hd : decide ((k : Int) < (l.length : Int)) = true := by simpa using hlt
    have hw := wrap_succ hlt hmax
    have hnx := take_next hp
    have HI : pb p = true -> idxOf pb l = k := idxOf_at HA.out hp
    have HH := Lib.hid HI
    clear ha hcall hp HI
    simp only [rdgC] at hcl
    repeat' (first | (apply U6; exact Z1; exact Z1; (focus (exact hcl)); simp only [pM, pN, rR, rP]) | refine go1 ?_ | refine go2 (fun hh => ?_) (fun hh => ?_) | fail)
    all_goals first
      | (refine ⟨hlt, _, rfl, ?_, ?_, ?_, ?_, ?_, by omega⟩
         · have := HA.out
           rw [hnx]; simp_all
         all_goals exact Z2)
      | ((simp only [resV_def (X := dX c) Tryz.func189, Tryz.results189]; first | exact J5 | refine J6 ?_)
         have := HH.out hh
         simp [isR, frzRes, dX_frz, dFrz, this])
  · have hd : decide ((k : Int) < (l.length : Int)) = false := by simpa using hlt
    have hkl : k = l.length := by omega
    have h2 := HA.out
    rw [hkl, List.take_length] at h2
    have HI := Lib.hid (idxOf_none h2)
    clear ha hcall h2 hkl
    repeat' (first | refine goS ?_ | refine go2 (fun hh => ?_) (fun hh => ?_) | fail)
    all_goals (simp only [resV_def (X := dX c) Tryz.func189, Tryz.results189]; first | exact J5 | refine J6 ?_)
    have := HI.out
    simp [isR, frzRes, dX_frz, dFrz, this]
theorem C152 (c : Itr) (hc : c 189 = none) (hc2 : c 152 = none) (a : AV) (l : List Rdg) (ha : slV rdgC a = some l) (g : FuncId) (first capt : List AV) (pb : Rdg -> Bool) (h : Heap)
  (hcall : ∀ p : Rdg, p ∈ l -> Cl (dX c) g ((first ++ [rdgC.enc p]) ++ capt) h (.ret (.bool (pb p)) h none)) : Cl (dX c) 152 [a, .func (.func g) first capt] h (.ret (.bool (l.any pb)) h none) := by
 refine ClR.cl ?_
 have hcl := C189 c hc a l ha g first capt pb h hcall
 have hout := sl_out ha
 have hb := idxOf_any pb l
 clear ha hcall
 refine ClR.walk (c := _) hc2 Tryz.func152 rfl (by kernel_rfl) rfl (fun e => by cases e) ?_
 simp only [entryEnv, Nat.reduceAdd]
 repeat' (first | (apply U6; exact Z1; exact Z1; (focus (exact hcl)); simp only [pM, pN, rR, rP]) | refine go1 ?_ | refine go2 (fun hh => ?_) (fun hh => ?_) | fail)
 all_goals (simp only [resV_def (X := dX c) Tryz.func152, Tryz.results152]; first | exact J5 | refine J6 ?_)
 simp [isR, frzRes, dX_frz, dFrz, hb]
def machB (st : List Pt) (cx cy wx wy : Sp) (rs : List Rdg) : Bool :=
 allB st 2 20 && spanB cx.lo cx.hi (w64 (-12)) 12 6 && spanB cy.lo cy.hi (w64 (-12)) 12 6 && spanB wx.lo wx.hi (w64 (-3)) 3 2 && spanB wy.lo wy.hi (w64 (-3)) 3 2 && decide ((rs.length : Int) <= 4) && !rs.any fun r => !okRdg r
def sp101 : List AV -> Option AV
 | [.agg [sa, .int .i64 cxl, .int .i64 cxh, .int .i64 cyl, .int .i64 cyh, .int .i64 wxl, .int .i64 wxh, .int .i64 wyl, .int .i64 wyh, ra]] => match slV ptC sa, slV rdgC ra with
  | some st, some rs => some (.bool (machB st ⟨cxl, cxh⟩ ⟨cyl, cyh⟩ ⟨wxl, wxh⟩ ⟨wyl, wyh⟩ rs))
  | _, _ => none
 | _ => none
theorem p101 : ∀ args v, sp101 args = some v -> v.flat = true := by
 intro args v h
 unfold sp101 at h
 split at h
 ·split at h
  ·cases h; rfl
  ·cases h
 ·cases h
set_option maxHeartbeats 1000000 in
theorem F101 : IntrFn Tryz.prog 101 (flatFn sp101) := by
 refine flat_fn (X := dX cQ) cQ_sound p101 ?_
 intro args v h
 unfold sp101 at h
 split at h
 ·rename_i sa cxl cxh cyl cyh wxl wxh wyl wyh ra
  split at h
  ·rename_i st rs hl hr
   cases h
   have hlen := sl_len hr
   have hout := sl_out hr
   have hout2 := sl_out hl
   have HL := Lib.hid hl
   have hcon : ∀ hp : Heap, Cl (dX cQ) 152 [ra, .func (.func 153) [] []] hp (.ret (.bool (rs.any fun r => !okRdg r)) hp none) := fun hp => C152 cQ rfl rfl ra rs hr 153 [] [] (fun r => !okRdg r) hp (fun p _ => C153 p hp)
   have HC := Lib.hid hcon
   clear hl hr hcon
   refine ClR.walk (c := _) rfl Tryz.func101 rfl (by kernel_rfl) rfl isRet_fail ?_
   simp only [entryEnv, Nat.reduceAdd]
   repeat' (first | refine goS ?_ | (apply U6; exact Z1; exact Z1; (focus (simp only [List.nil_append, List.append_nil]; first | exact K94 rfl _ _ _ _ HL.out _ | exact K151 rfl _ _ _ _ _ | exact HC.out _)); simp only [pM, pN, rR, rP]) | refine go2 (fun hh => ?_) (fun hh => ?_) | fail)
   all_goals (simp only [resV_def (X := dX cQ) Tryz.func101, Tryz.results101]; first | exact J5 | refine J6 ?_)
   all_goals simp [machB, *]
  ·cases h
 ·cases h
theorem K101 {X : Ctx} (hX : X.intr 101 = some (flatFn sp101)) (sa ra : AV) (st : List Pt) (rs : List Rdg) (cx cy wx wy : Sp) (hl : slV ptC sa = some st) (hr : slV rdgC ra = some rs) (h : Heap) :
  Cl X 101 [.agg [sa, .int .i64 cx.lo, .int .i64 cx.hi, .int .i64 cy.lo, .int .i64 cy.hi, .int .i64 wx.lo, .int .i64 wx.hi, .int .i64 wy.lo, .int .i64 wy.hi, ra]] h (.ret (.bool (machB st cx cy wx wy rs)) h none) :=
 Cl.intr hX (by
  have hp : (AV.agg [sa, .int .i64 cx.lo, .int .i64 cx.hi, .int .i64 cy.lo, .int .i64 cy.hi, .int .i64 wx.lo, .int .i64 wx.hi, .int .i64 wy.lo, .int .i64 wy.hi, ra]).pur = true := by simp [AV.pur, AV.purL, sl_pur hl, sl_pur hr]
  simp [flatFn, viewVs, view_pur hp, sp101, hl, hr])
def sp41 : List AV -> Option AV
 | [.int .i64 n, .int .i64 f] => some (.bool (inB n f 12))
 | _ => none
theorem F41 : IntrFn Tryz.prog 41 (pureFn sp41) := by
 refine pure_fn (X := dX cQ) cQ_sound (fun a v h => by unfold sp41 at h; split at h <;> cases h; rfl) ?_
 intro args v h
 unfold sp41 at h
 split at h
 ·cases h
  refine ClR.walk (c := _) rfl Tryz.func41 rfl (by kernel_rfl) rfl isRet_fail ?_
  simp only [entryEnv, Nat.reduceAdd]
  repeat' (first | refine goS ?_ | (apply U6; exact Z1; exact Z1; (focus (simp only [List.nil_append, List.append_nil]; first | exact K97 rfl _ _ _ _)); simp only [pM, pN, rR, rP]) | refine go2 (fun hh => ?_) (fun hh => ?_) | fail)
  all_goals (simp only [resV_def (X := dX cQ) Tryz.func41, Tryz.results41]; first | exact J5 | refine J6 ?_)
 ·cases h
theorem K41 {X : Ctx} (hX : X.intr 41 = some (pureFn sp41)) (n f : Int) (h : Heap) : Cl X 41 [.int .i64 n, .int .i64 f] h (.ret (.bool (inB n f 12)) h none) := Cl.intr hX rfl
noncomputable def cR : Itr
 | 41 => some (pureFn sp41)
 | f => cQ f
theorem cR_sound : Sound (dX cR) := dX_sound (fun f g h => by
 unfold cR at h
 split at h
 ·cases h; exact F41
 ·exact cQ_sound.intr f g h)
def okRdgR (p : Rdg) : Bool := inB p.b 0 12 && inB p.x (-80) 80 && inB p.y (-80) 80 && inB p.err 0 4
def machR (st : List Pt) (cx cy wx wy : Sp) (rs : List Rdg) : Bool :=
 rs.all okRdgR && (pointsB st 2 4 20 && (spanB cx.lo cx.hi (-12) 12 6 && spanB cy.lo cy.hi (-12) 12 6) && (spanB wx.lo wx.hi (-3) 3 2 && spanB wy.lo wy.hi (-3) 3 2) && decide ((rs.length : Int) <= 4))
theorem machR_no {st : List Pt} {cx cy wx wy : Sp} {rs : List Rdg} {k : Nat} {p : Rdg} (hp : rs[k]? = some p) (h : okRdgR p = false) : machR st cx cy wx wy rs = false := by
 have : rs.all okRdgR = false := by
  rw [Bool.eq_false_iff]
  intro h2
  have := List.all_eq_true.1 h2 p (List.mem_of_getElem? hp)
  rw [h] at this
  cases this
 simp [machR, this]
def sp71 : List AV -> Option AV
 | [.agg [sa, .int .i64 cxl, .int .i64 cxh, .int .i64 cyl, .int .i64 cyh, .int .i64 wxl, .int .i64 wxh, .int .i64 wyl, .int .i64 wyh, ra]] => match slV ptC sa, slV rdgC ra with
  | some st, some rs => some (.bool (machR st ⟨cxl, cxh⟩ ⟨cyl, cyh⟩ ⟨wxl, wxh⟩ ⟨wyl, wyh⟩ rs))
  | _, _ => none
 | _ => none
theorem p71 : ∀ args v, sp71 args = some v -> v.flat = true := by
 intro args v h
 unfold sp71 at h
 split at h
 ·split at h
  ·cases h; rfl
  ·cases h
 ·cases h
set_option maxHeartbeats 2000000 in
theorem F71 : IntrFn Tryz.prog 71 (flatFn sp71) := by
  refine flat_fn (X := dX cR) cR_sound p71 ?_
  intro args v h
  unfold sp71 at h
  split at h
  · rename_i sa cxl cxh cyl cyh wxl wxh wyl wyh ra
    split at h
    · rename_i st rs hl hr
      cases h
      have hlen := sl_len hr
      have hout := sl_out hr
      have hmax := sl_max hr
      have hout2 := sl_out hl
      have HL := Lib.hid hl
      clear hl
      refine ClR.walk (c := _) rfl Tryz.func71 rfl (by kernel_rfl) rfl isRet_fail ?_
      simp only [entryEnv, Nat.reduceAdd]
      repeat' (first | refine goS ?_ | refine go2 (fun hh => ?_) (fun hh => ?_) | fail)
      refine W.loopN rs.length (fun k F => ∃ e lm, F = Fr.mk 71 false e lm emptyHp [] none /\ (rs.take k).all okRdgR = true /\ lm.get 1 = some (0, [sa, .int .i64 cxl, .int .i64 cxh, .int .i64 cyl, .int .i64 cyh, .int .i64 wxl, .int .i64 wxh, .int .i64 wyl, .int .i64 wyh, ra]) /\ e.get 1 = some (.lptr 1 0 0) /\ e.get 3 = some (.int .i64 ↑k) /\ k <= rs.length) ?_ ?_
      · refine ⟨_, _, rfl, ?_, ?_, ?_, ?_, ?_⟩ <;> first | exact Z2 | simp [go_sem, *]
      rintro k F ⟨e, lm, rfl, hall, hl1, h1, h3, hk⟩
      have HA := Lib.hid hall
      clear hall
      by_cases hlt : k < rs.length
      · obtain ⟨p, hp⟩ := get_some hlt
        have hix := rdg_idx hr hp
        have hd : decide ((k : Int) < (rs.length : Int)) = true := by simpa using hlt
        have hw := wrap_succ hlt hmax
        have hnx := take_next hp
        have HN := Lib.hid (fun h => machR_no (st := st) (cx := ⟨cxl, cxh⟩) (cy := ⟨cyl, cyh⟩) (wx := ⟨wxl, wxh⟩) (wy := ⟨wyl, wyh⟩) hp h)
        have HX := Lib.hid hnx
        clear hr hp hnx
        repeat' (first | refine goS ?_ | (apply U6; exact Z1; exact Z1; (focus (simp only [List.nil_append, List.append_nil]; first | exact K41 rfl _ _ _ | exact K97 rfl _ _ _ _)); simp only [pM, pN, rR, rP]) | refine go2 (fun hh => ?_) (fun hh => ?_) | fail)
        all_goals (try simp only [Bool.not_eq_false', Bool.not_eq_true'] at *)
        all_goals first
          | (refine ⟨hlt, _, _, rfl, ?_, ?_, ?_, ?_, by omega⟩
             · have h1 := HA.out
               rw [HX.out]
               simp only [List.all_append, h1, List.all_cons, List.all_nil, okRdgR, *, Bool.and_self]
             all_goals exact Z2)
          | ((simp only [resV_def (X := dX cR) Tryz.func71, Tryz.results71]; first | exact J5 | refine J6 ?_)
             rw [HN.out (by simp [okRdgR, *])])
      · have hd : decide ((k : Int) < (rs.length : Int)) = false := by simpa using hlt
        have hkl : k = rs.length := by omega
        have h2 := HA.out
        rw [hkl, List.take_length] at h2
        have H2 := Lib.hid h2
        clear hr h2 hkl
        repeat' (first | refine goS ?_ | (apply U6; exact Z1; exact Z1; (focus (simp only [List.nil_append, List.append_nil]; first | exact K135 rfl _ _ _ _ _ _ | exact K28 rfl _ _ _ _ _ HL.out _)); simp only [pM, pN, rR, rP]) | refine go2 (fun hh => ?_) (fun hh => ?_) | fail)
        all_goals (simp only [resV_def (X := dX cR) Tryz.func71, Tryz.results71]; first | exact J5 | refine J6 ?_)
        all_goals (have h2 := H2.out; simp [machR, *])
    · cases h
  · cases h
theorem K71 {X : Ctx} (hX : X.intr 71 = some (flatFn sp71)) (sa ra : AV) (st : List Pt) (rs : List Rdg) (cx cy wx wy : Sp) (hl : slV ptC sa = some st) (hr : slV rdgC ra = some rs) (h : Heap) :
  Cl X 71 [.agg [sa, .int .i64 cx.lo, .int .i64 cx.hi, .int .i64 cy.lo, .int .i64 cy.hi, .int .i64 wx.lo, .int .i64 wx.hi, .int .i64 wy.lo, .int .i64 wy.hi, ra]] h (.ret (.bool (machR st cx cy wx wy rs)) h none) :=
 Cl.intr hX (by
  have hp : (AV.agg [sa, .int .i64 cx.lo, .int .i64 cx.hi, .int .i64 cy.lo, .int .i64 cy.hi, .int .i64 wx.lo, .int .i64 wx.hi, .int .i64 wy.lo, .int .i64 wy.hi, ra]).pur = true := by simp [AV.pur, AV.purL, sl_pur hl, sl_pur hr]
  simp [flatFn, viewVs, view_pur hp, sp71, hl, hr])
theorem machR_B (st : List Pt) (cx cy wx wy : Sp) (rs : List Rdg) : machR st cx cy wx wy rs = machB st cx cy wx wy rs := by
 have e1 : w64 (-12) = -12 := rfl
 have e2 : w64 (-3) = -3 := rfl
 have e3 : ∀ p, okRdgR p = okRdg p := fun p => by
  unfold okRdgR okRdg okPt
  have : w64 (-80) = -80 := rfl
  rw [this]
  simp only [Bool.and_assoc]
 have e4 : allB st 2 20 = pointsB st 2 4 20 := by
  unfold allB pointsB
  rw [Bool.and_comm]
  congr 1
  rw [List.not_any_eq_all_not]
  congr 1
  funext p
  simp
 have e5 : (!rs.any fun r => !okRdg r) = rs.all okRdgR := by
  rw [List.not_any_eq_all_not]
  congr 1
  funext p
  rw [e3]
  simp
 unfold machR machB
 rw [e1, e2, e4, e5]
 cases rs.all okRdgR <;> cases pointsB st 2 4 20 <;> cases spanB cx.lo cx.hi (-12) 12 6 <;> cases spanB cy.lo cy.hi (-12) 12 6 <;> cases spanB wx.lo wx.hi (-3) 3 2 <;> cases spanB wy.lo wy.hi (-3) 3 2 <;> cases decide ((rs.length : Int) <= 4) <;> rfl
end Go.AM
namespace Go.AM
open Go
variable [Keep]
section
variable {X : Ctx} {F : Fr} {Q : Out -> Prop} {g : Operand} {params : Array Tmp} {assign body : Code} {fid : FuncId} {first capt ps : List AV} {v : AV} {h : Heap} {up : Option (AV × Bool)} {f : FuncId} {e : Mp AV} {pl : List Tmp} {a b : Code} {st : LoopState}
theorem W.rangeNorm (hr : F.rnd = false) (hg : F.opv g = some (.func (.func fid) first capt))
  (hc : Cl X fid ((first ++ [.yield F.hp.next]) ++ capt) (F.hp.new (.loop F.f (F.e.map noBox) params.toList assign body .ready none)) (.ret v h up))
  (hb : h.get F.hp.next = some (.loop f e pl a b st none)) (hs : st ≠ .busy)
  (hq : Q (.norm { F with hp := h.put F.hp.next (.loop f e pl a b .exhausted none) })) : W X (.rangeFunc g params assign body) F Q := by
 obtain ⟨n, hn⟩ := hc
 refine ⟨_, Ev.step ⟨n, fun m hm => ?_⟩, hq⟩
 simp only [evStep, hr, Bool.false_eq_true, if_false, hg, hn m hm, hb, if_neg hs]
theorem W.rangeRet (hr : F.rnd = false) (hg : F.opv g = some (.func (.func fid) first capt))
  (hc : Cl X fid ((first ++ [.yield F.hp.next]) ++ capt) (F.hp.new (.loop F.f (F.e.map noBox) params.toList assign body .ready none)) (.ret v h up))
  (hb : h.get F.hp.next = some (.loop f e pl a b st (some .ret))) (hs : st ≠ .busy)
  (hq : Q (.ret { F with hp := h.put F.hp.next (.loop f e pl a b .exhausted (some .ret)) })) : W X (.rangeFunc g params assign body) F Q := by
 obtain ⟨n, hn⟩ := hc
 refine ⟨_, Ev.step ⟨n, fun m hm => ?_⟩, hq⟩
 simp only [evStep, hr, Bool.false_eq_true, if_false, hg, hn m hm, hb, if_neg hs]
end
def roundQ (X : Ctx) (id : Nat) (R : COut -> Prop) : Out -> Prop := fun o => R (roundEnd X.P id o)
def RdR (X : Ctx) (id : Nat) (args : List AV) (h : Heap) (R : COut -> Prop) : Prop := ∃ r, (∃ n, ∀ m, n <= m -> roundV X (ev X m) id args h = r) /\ R r
theorem round_ok {X : Ctx} {id : Nat} {args : List AV} {h : Heap} {f : FuncId} {e e' : Mp AV} {ps : List Tmp} {a b : Code} {p : Option Code} {R : COut -> Prop}
  (h1 : h.get id = some (.loop f e ps a b .ready p)) (h2 : setParams ps args e = some e')
  (h3 : W X a (Fr.mk f true e' .nil h [] none) (thenQ (fun F1 => F1.hp = h /\ W X b { F1 with hp := h.put id (.loop f e ps a b .busy p) } (roundQ X id R)) (fun _ => False))) : RdR X id args h R := by
 obtain ⟨o, ⟨n, hn⟩, hq⟩ := h3
 cases o with
 | norm F1 =>
  obtain ⟨e1, o2, ⟨n2, hn2⟩, hq2⟩ := hq
  refine ⟨_, ⟨max n n2, fun m hm => ?_⟩, hq2⟩
  simp only [roundV, h1, h2, hn m (by omega), e1, hn2 m (by omega)]
 | exit i F' => exact hq.elim
 | ret F' => exact hq.elim
 | pan v F' => exact hq.elim
 | fail => exact hq.elim
theorem round_ok' {X : Ctx} {id : Nat} {args : List AV} {h : Heap} {f : FuncId} {e e' : Mp AV} {ps : List Tmp} {a b : Code} {p : Option Code} {R : COut -> Prop}
  (h1 : h.get id = some (.loop f e ps a b .ready p)) (h2 : setParams ps args e = some e')
  (h3 : W X a (Fr.mk f true e' .nil h [] none) (thenQ (fun F1 => F1.hp = h /\ ∀ hq : Heap, hq.next = h.next -> (∀ j, j ≠ id -> hq.get j = h.get j) -> hq.get id = some (.loop f e ps a b .busy p) -> W X b { F1 with hp := hq } (roundQ X id R)) (fun _ => False))) : RdR X id args h R := by
 refine round_ok h1 h2 (h3.mono fun o q => ?_)
 cases o with
 | norm F1 =>
  refine ⟨q.1, q.2 _ rfl (fun j hj => ?_) ?_⟩
  ·rw [Heap.get_put, if_neg (Ne.symm hj)]
  ·rw [Heap.get_put, if_pos rfl]
 | exit i F' => exact q
 | ret F' => exact q
 | pan v F' => exact q
 | fail => exact q
theorem roundQ_norm {X : Ctx} {id : Nat} {R : COut -> Prop} {F : Fr} : roundQ X id R (.norm F) ↔ R (endV id F .ready none true) := Iff.rfl
theorem roundQ_ret {X : Ctx} {id : Nat} {R : COut -> Prop} {F : Fr} : roundQ X id R (.ret F) ↔ R (endV id F .done (some .ret) false) := Iff.rfl
section
variable {X : Ctx} {f : FuncId} {ops : Array Oper} {ts : List (Nat × Trace)} {i k j : Nat} {r : List (Nat × Nat)} {x y o : Oper} {d : Option Tmp} {op : Op} {T : TypeId} {ps : String} {af : Array Edge} {want b : Bool} {s : Tmp}
  {f1 f2 : FuncId} {r1 r2 : Bool} {e1 e2 : Mp AV} {lm1 lm2 : Mp (Nat × List AV)} {hp1 hp2 : Heap} {df1 df2 : List (AV × List AV)} {up1 up2 : Option (AV × Bool)} {v1 v2 : AV} {a1 b2 : Fr}
theorem calmG (h1 : ops[i]? = some ⟨d, op, T, ps, af, some (j, want)⟩) (h2 : ops[k]? = some y) (h3 : traceOf ts i = some ⟨Fr.mk f1 r1 e1 lm1 hp1 df1 up1, v1, a1⟩) (h4 : traceOf ts k = some ⟨b2, v2, Fr.mk f2 r2 e2 lm2 hp2 df2 up2⟩)
  (h5 : isEffD X f ⟨d, op, T, ps, af, some (j, want)⟩ = false) (ho : ops[j]? = some o) (ht : o.dst = some s) (hb : e1.get s = some (.bool want)) (h7 : rdV X (Fr.mk f1 r1 e1 lm2 hp2 df1 up1) d op = some v1) (h8 : r.all (calmPair X f ops ts) = true) : ((i, k) :: r).all (calmPair X f ops ts) = true := by
 have hw : wantedA ops (Fr.mk f1 r1 e1 lm1 hp1 df1 up1) ⟨d, op, T, ps, af, some (j, want)⟩ = true := by simp [wantedA, yieldedA, ho, ht, hb]
 simp only [List.all_cons, h8, Bool.and_true, calmPair, h1, h2, h3, h4, h5, Bool.false_eq_true, if_false, rereads, hw, if_true, h7]
 exact AV.same_refl _
theorem calmGN (h1 : ops[i]? = some ⟨d, op, T, ps, af, some (j, want)⟩) (h2 : ops[k]? = some y) (h3 : traceOf ts i = some ⟨Fr.mk f1 r1 e1 lm1 hp1 df1 up1, v1, a1⟩) (h4 : traceOf ts k = some ⟨b2, v2, Fr.mk f2 r2 e2 lm2 hp2 df2 up2⟩)
  (h5 : isEffD X f ⟨d, op, T, ps, af, some (j, want)⟩ = false) (ho : ops[j]? = some o) (ht : o.dst = some s) (hb : e1.get s = some (.bool b)) (hne : (b == want) = false) (h8 : r.all (calmPair X f ops ts) = true) : ((i, k) :: r).all (calmPair X f ops ts) = true := by
 have hw : wantedA ops (Fr.mk f1 r1 e1 lm1 hp1 df1 up1) ⟨d, op, T, ps, af, some (j, want)⟩ = false := by simp [wantedA, yieldedA, ho, ht, hb]; cases b <;> cases want <;> simp_all
 simp only [List.all_cons, h8, Bool.and_true, calmPair, h1, h2, h3, h4, h5, Bool.false_eq_true, if_false, rereads, hw]
end
end Go.AM
