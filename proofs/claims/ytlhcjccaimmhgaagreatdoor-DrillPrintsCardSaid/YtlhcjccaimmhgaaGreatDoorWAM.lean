/-
  A part of the proof: contracts of functions.
-/
import Derived.Test.YtlhcjccaimmhgaaGreatDoorWAJ
import Derived.Test.YtlhcjccaimmhgaaGreatDoorWAK
import Derived.Shelf.Strings.Split
import Derived.Lib.IndexBytes
import Derived.Test.YtlhcjccaimmhgaaGreatDoorWAG
import Derived.Test.YtlhcjccaimmhgaaGreatDoorWAI
set_option linter.unusedSectionVars false
set_option linter.unusedVariables false
set_option linter.unusedSimpArgs false
set_option maxRecDepth 100000
namespace Go.AM
open Go Go.Proofs
variable [Keep]
attribute [local irreducible] W WO WO1 WD WQ WT thenQ blockQ endR isRet retK Cl ClR
def okRdg (p : Rdg) : Bool := inB p.b 0 12 && okPt 80 ⟨p.x, p.y⟩ && inB p.err 0 4
noncomputable def cQ : Itr
 | 28 => some (flatFn sp28)
 | 93 => some (pureFn sp93)
 | 94 => some (flatFn sp94)
 | 97 => some (pureFn sp97)
 | 135 => some (pureFn sp135)
 | 149 => some (pureFn sp149)
 | 151 => some (pureFn sp151)
 | _ => none
theorem cQ_sound : Sound (dX cQ) := dX_sound (fun f g h => by
 unfold cQ at h
 split at h
 ·cases h; exact F28
 ·cases h; exact F93
 ·cases h; exact F94
 ·cases h; exact F97
 ·cases h; exact F135
 ·cases h; exact F149
 ·cases h; exact F151
 ·cases h)
theorem C153 (p : Rdg) (hp : Heap) : Cl (dX cQ) 153 ([] ++ [rdgC.enc p] ++ []) hp (.ret (.bool (!okRdg p)) hp none) := by
 refine ClR.cl ?_
 refine ClR.walk (c := _) rfl Tryz.func153 rfl (by kernel_rfl) rfl (fun e => by cases e) ?_
 simp only [List.nil_append, List.cons_append, rdgC, entryEnv, Nat.reduceAdd]
 repeat' (first | refine goS ?_ | (apply U6; exact Z1; exact Z1; (focus (simp only [List.nil_append, List.append_nil]; first | exact K93 rfl _ _ _ _ | exact K149 rfl ⟨_, _⟩ _ _)); simp only [pM, pN, rR, rP]) | refine go2 (fun hh => ?_) (fun hh => ?_) | fail)
 all_goals (simp only [resV_def (X := dX cQ) Tryz.func153, Tryz.results153]; first | exact J5 | refine J6 ?_)
 all_goals simp [isR, okRdg, *]
set_option maxHeartbeats 400000 in
theorem C189 (c : Itr) (hc : c 189 = none) (a : AV) (l : List Rdg) (ha : slV rdgC a = some l) (g : FuncId) (first capt : List AV) (pb : Rdg → Bool) (h : Heap)
    (hcall : ∀ p : Rdg, p ∈ l → Cl (dX c) g ((first ++ [rdgC.enc p]) ++ capt) h (.ret (.bool (pb p)) h none)) : Cl (dX c) 189 [a, .func (.func g) first capt] h (.ret (.int .i64 (idxOf pb l)) h none) := by
  refine ClR.cl ?_
  have hlen := sl_len ha
  have hout := sl_out ha
  have hmax := sl_max ha
  refine ClR.walk (c := _) hc Tryz.func189 rfl (by kernel_rfl) rfl (fun e => by cases e) ?_
  simp only [entryEnv, Nat.reduceAdd]
  repeat' (first | refine goS ?_ | refine go2 (fun hh => ?_) (fun hh => ?_) | fail)
  refine W.loopN l.length (fun k F => ∃ e, F = Fr.mk 189 false e .nil h [] none ∧ (l.take k).all (fun x => !pb x) = true ∧ e.get 0 = some a ∧ e.get 1 = some (.func (.func g) first capt) ∧ e.get 7 = some (.int .i64 ↑l.length) ∧ e.get 8 = some (.int .i64 ↑k) ∧ k ≤ l.length) ?_ ?_
  · refine ⟨_, rfl, ?_, ?_, ?_, ?_, ?_, ?_⟩ <;> simp [go_sem, *]
  rintro k F ⟨e, rfl, hall, h0, h1, h7, h8, hk⟩
  have HA := Lib.hid hall
  clear hall
  by_cases hlt : k < l.length
  · obtain ⟨p, hp⟩ := get_some hlt
    have hix := rdg_idx ha hp
    have hcl := hcall p (List.mem_of_getElem? hp)
    have hd : decide ((k : Int) < (l.length : Int)) = true := by simpa using hlt
    have hw := wrap_succ hlt hmax
    have hnx := take_next hp
    have HI : pb p = true → idxOf pb l = k := idxOf_at HA.out hp
    have HH := Lib.hid HI
    clear ha hcall hp HI
    simp only [rdgC] at hcl
    repeat' (first | (apply U6; exact Z1; exact Z1; (focus (exact hcl)); simp only [pM, pN, rR, rP]) | refine go1 ?_ | refine go2 (fun hh => ?_) (fun hh => ?_) | fail)
    all_goals first
      | (refine ⟨hlt, _, rfl, ?_, ?_, ?_, ?_, ?_, by omega⟩
         · have := HA.out
           rw [hnx]; simp_all
         all_goals exact Z2)
      | ((simp only [resV_def (X := dX c) Tryz.func189, Tryz.results189]; first | exact J5 | refine J6 ?_)
         have := HH.out hh
         simp [isR, frzRes, dX_frz, dFrz, this])
  · have hd : decide ((k : Int) < (l.length : Int)) = false := by simpa using hlt
    have hkl : k = l.length := by omega
    have h2 := HA.out
    rw [hkl, List.take_length] at h2
    have HI := Lib.hid (idxOf_none h2)
    clear ha hcall h2 hkl
    repeat' (first | refine goS ?_ | refine go2 (fun hh => ?_) (fun hh => ?_) | fail)
    all_goals (simp only [resV_def (X := dX c) Tryz.func189, Tryz.results189]; first | exact J5 | refine J6 ?_)
    have := HI.out
    simp [isR, frzRes, dX_frz, dFrz, this]
theorem C152 (c : Itr) (hc : c 189 = none) (hc2 : c 152 = none) (a : AV) (l : List Rdg) (ha : slV rdgC a = some l) (g : FuncId) (first capt : List AV) (pb : Rdg → Bool) (h : Heap)
  (hcall : ∀ p : Rdg, p ∈ l → Cl (dX c) g ((first ++ [rdgC.enc p]) ++ capt) h (.ret (.bool (pb p)) h none)) : Cl (dX c) 152 [a, .func (.func g) first capt] h (.ret (.bool (l.any pb)) h none) := by
 refine ClR.cl ?_
 have hcl := C189 c hc a l ha g first capt pb h hcall
 have hout := sl_out ha
 have hb := idxOf_any pb l
 clear ha hcall
 refine ClR.walk (c := _) hc2 Tryz.func152 rfl (by kernel_rfl) rfl (fun e => by cases e) ?_
 simp only [entryEnv, Nat.reduceAdd]
 repeat' (first | (apply U6; exact Z1; exact Z1; (focus (exact hcl)); simp only [pM, pN, rR, rP]) | refine go1 ?_ | refine go2 (fun hh => ?_) (fun hh => ?_) | fail)
 all_goals (simp only [resV_def (X := dX c) Tryz.func152, Tryz.results152]; first | exact J5 | refine J6 ?_)
 simp [isR, frzRes, dX_frz, dFrz, hb]
def machB (st : List Pt) (cx cy wx wy : Sp) (rs : List Rdg) : Bool :=
 allB st 2 20 && spanB cx.lo cx.hi (w64 (-12)) 12 6 && spanB cy.lo cy.hi (w64 (-12)) 12 6 && spanB wx.lo wx.hi (w64 (-3)) 3 2 && spanB wy.lo wy.hi (w64 (-3)) 3 2 && decide ((rs.length : Int) ≤ 4) && !rs.any fun r => !okRdg r
def sp101 : List AV → Option AV
 | [.agg [sa, .int .i64 cxl, .int .i64 cxh, .int .i64 cyl, .int .i64 cyh, .int .i64 wxl, .int .i64 wxh, .int .i64 wyl, .int .i64 wyh, ra]] => match slV ptC sa, slV rdgC ra with
  | some st, some rs => some (.bool (machB st ⟨cxl, cxh⟩ ⟨cyl, cyh⟩ ⟨wxl, wxh⟩ ⟨wyl, wyh⟩ rs))
  | _, _ => none
 | _ => none
theorem p101 : ∀ args v, sp101 args = some v → v.flat = true := by
 intro args v h
 unfold sp101 at h
 split at h
 ·split at h
  ·cases h; rfl
  ·cases h
 ·cases h
set_option maxHeartbeats 1000000 in
theorem F101 : IntrFn Tryz.prog 101 (flatFn sp101) := by
 refine flat_fn (X := dX cQ) cQ_sound p101 ?_
 intro args v h
 unfold sp101 at h
 split at h
 ·rename_i sa cxl cxh cyl cyh wxl wxh wyl wyh ra
  split at h
  ·rename_i st rs hl hr
   cases h
   have hlen := sl_len hr
   have hout := sl_out hr
   have hout2 := sl_out hl
   have HL := Lib.hid hl
   have hcon : ∀ hp : Heap, Cl (dX cQ) 152 [ra, .func (.func 153) [] []] hp (.ret (.bool (rs.any fun r => !okRdg r)) hp none) := fun hp => C152 cQ rfl rfl ra rs hr 153 [] [] (fun r => !okRdg r) hp (fun p _ => C153 p hp)
   have HC := Lib.hid hcon
   clear hl hr hcon
   refine ClR.walk (c := _) rfl Tryz.func101 rfl (by kernel_rfl) rfl isRet_fail ?_
   simp only [entryEnv, Nat.reduceAdd]
   repeat' (first | refine goS ?_ | (apply U6; exact Z1; exact Z1; (focus (simp only [List.nil_append, List.append_nil]; first | exact K94 rfl _ _ _ _ HL.out _ | exact K151 rfl _ _ _ _ _ | exact HC.out _)); simp only [pM, pN, rR, rP]) | refine go2 (fun hh => ?_) (fun hh => ?_) | fail)
   all_goals (simp only [resV_def (X := dX cQ) Tryz.func101, Tryz.results101]; first | exact J5 | refine J6 ?_)
   all_goals simp [machB, *]
  ·cases h
 ·cases h
theorem K101 {X : Ctx} (hX : X.intr 101 = some (flatFn sp101)) (sa ra : AV) (st : List Pt) (rs : List Rdg) (cx cy wx wy : Sp) (hl : slV ptC sa = some st) (hr : slV rdgC ra = some rs) (h : Heap) :
  Cl X 101 [.agg [sa, .int .i64 cx.lo, .int .i64 cx.hi, .int .i64 cy.lo, .int .i64 cy.hi, .int .i64 wx.lo, .int .i64 wx.hi, .int .i64 wy.lo, .int .i64 wy.hi, ra]] h (.ret (.bool (machB st cx cy wx wy rs)) h none) :=
 Cl.intr hX (by
  have hp : (AV.agg [sa, .int .i64 cx.lo, .int .i64 cx.hi, .int .i64 cy.lo, .int .i64 cy.hi, .int .i64 wx.lo, .int .i64 wx.hi, .int .i64 wy.lo, .int .i64 wy.hi, ra]).pur = true := by simp [AV.pur, AV.purL, sl_pur hl, sl_pur hr]
  simp [flatFn, viewVs, view_pur hp, sp101, hl, hr])
def sp41 : List AV → Option AV
 | [.int .i64 n, .int .i64 f] => some (.bool (inB n f 12))
 | _ => none
theorem F41 : IntrFn Tryz.prog 41 (pureFn sp41) := by
 refine pure_fn (X := dX cQ) cQ_sound (fun a v h => by unfold sp41 at h; split at h <;> cases h; rfl) ?_
 intro args v h
 unfold sp41 at h
 split at h
 ·cases h
  refine ClR.walk (c := _) rfl Tryz.func41 rfl (by kernel_rfl) rfl isRet_fail ?_
  simp only [entryEnv, Nat.reduceAdd]
  repeat' (first | refine goS ?_ | (apply U6; exact Z1; exact Z1; (focus (simp only [List.nil_append, List.append_nil]; first | exact K97 rfl _ _ _ _)); simp only [pM, pN, rR, rP]) | refine go2 (fun hh => ?_) (fun hh => ?_) | fail)
  all_goals (simp only [resV_def (X := dX cQ) Tryz.func41, Tryz.results41]; first | exact J5 | refine J6 ?_)
 ·cases h
theorem K41 {X : Ctx} (hX : X.intr 41 = some (pureFn sp41)) (n f : Int) (h : Heap) : Cl X 41 [.int .i64 n, .int .i64 f] h (.ret (.bool (inB n f 12)) h none) := Cl.intr hX rfl
noncomputable def cR : Itr
 | 41 => some (pureFn sp41)
 | f => cQ f
theorem cR_sound : Sound (dX cR) := dX_sound (fun f g h => by
 unfold cR at h
 split at h
 ·cases h; exact F41
 ·exact cQ_sound.intr f g h)
def okRdgR (p : Rdg) : Bool := inB p.b 0 12 && inB p.x (-80) 80 && inB p.y (-80) 80 && inB p.err 0 4
def machR (st : List Pt) (cx cy wx wy : Sp) (rs : List Rdg) : Bool :=
 rs.all okRdgR && (pointsB st 2 4 20 && (spanB cx.lo cx.hi (-12) 12 6 && spanB cy.lo cy.hi (-12) 12 6) && (spanB wx.lo wx.hi (-3) 3 2 && spanB wy.lo wy.hi (-3) 3 2) && decide ((rs.length : Int) ≤ 4))
theorem machR_no {st : List Pt} {cx cy wx wy : Sp} {rs : List Rdg} {k : Nat} {p : Rdg} (hp : rs[k]? = some p) (h : okRdgR p = false) : machR st cx cy wx wy rs = false := by
 have : rs.all okRdgR = false := by
  rw [Bool.eq_false_iff]
  intro h2
  have := List.all_eq_true.1 h2 p (List.mem_of_getElem? hp)
  rw [h] at this
  cases this
 simp [machR, this]
def sp71 : List AV → Option AV
 | [.agg [sa, .int .i64 cxl, .int .i64 cxh, .int .i64 cyl, .int .i64 cyh, .int .i64 wxl, .int .i64 wxh, .int .i64 wyl, .int .i64 wyh, ra]] => match slV ptC sa, slV rdgC ra with
  | some st, some rs => some (.bool (machR st ⟨cxl, cxh⟩ ⟨cyl, cyh⟩ ⟨wxl, wxh⟩ ⟨wyl, wyh⟩ rs))
  | _, _ => none
 | _ => none
theorem p71 : ∀ args v, sp71 args = some v → v.flat = true := by
 intro args v h
 unfold sp71 at h
 split at h
 ·split at h
  ·cases h; rfl
  ·cases h
 ·cases h
set_option maxHeartbeats 2000000 in
theorem F71 : IntrFn Tryz.prog 71 (flatFn sp71) := by
  refine flat_fn (X := dX cR) cR_sound p71 ?_
  intro args v h
  unfold sp71 at h
  split at h
  · rename_i sa cxl cxh cyl cyh wxl wxh wyl wyh ra
    split at h
    · rename_i st rs hl hr
      cases h
      have hlen := sl_len hr
      have hout := sl_out hr
      have hmax := sl_max hr
      have hout2 := sl_out hl
      have HL := Lib.hid hl
      clear hl
      refine ClR.walk (c := _) rfl Tryz.func71 rfl (by kernel_rfl) rfl isRet_fail ?_
      simp only [entryEnv, Nat.reduceAdd]
      repeat' (first | refine goS ?_ | refine go2 (fun hh => ?_) (fun hh => ?_) | fail)
      refine W.loopN rs.length (fun k F => ∃ e lm, F = Fr.mk 71 false e lm emptyHp [] none ∧ (rs.take k).all okRdgR = true ∧ lm.get 1 = some (0, [sa, .int .i64 cxl, .int .i64 cxh, .int .i64 cyl, .int .i64 cyh, .int .i64 wxl, .int .i64 wxh, .int .i64 wyl, .int .i64 wyh, ra]) ∧ e.get 1 = some (.lptr 1 0 0) ∧ e.get 3 = some (.int .i64 ↑k) ∧ k ≤ rs.length) ?_ ?_
      · refine ⟨_, _, rfl, ?_, ?_, ?_, ?_, ?_⟩ <;> first | exact Z2 | simp [go_sem, *]
      rintro k F ⟨e, lm, rfl, hall, hl1, h1, h3, hk⟩
      have HA := Lib.hid hall
      clear hall
      by_cases hlt : k < rs.length
      · obtain ⟨p, hp⟩ := get_some hlt
        have hix := rdg_idx hr hp
        have hd : decide ((k : Int) < (rs.length : Int)) = true := by simpa using hlt
        have hw := wrap_succ hlt hmax
        have hnx := take_next hp
        have HN := Lib.hid (fun h => machR_no (st := st) (cx := ⟨cxl, cxh⟩) (cy := ⟨cyl, cyh⟩) (wx := ⟨wxl, wxh⟩) (wy := ⟨wyl, wyh⟩) hp h)
        have HX := Lib.hid hnx
        clear hr hp hnx
        repeat' (first | refine goS ?_ | (apply U6; exact Z1; exact Z1; (focus (simp only [List.nil_append, List.append_nil]; first | exact K41 rfl _ _ _ | exact K97 rfl _ _ _ _)); simp only [pM, pN, rR, rP]) | refine go2 (fun hh => ?_) (fun hh => ?_) | fail)
        all_goals (try simp only [Bool.not_eq_false', Bool.not_eq_true'] at *)
        all_goals first
          | (refine ⟨hlt, _, _, rfl, ?_, ?_, ?_, ?_, by omega⟩
             · have h1 := HA.out
               rw [HX.out]
               simp only [List.all_append, h1, List.all_cons, List.all_nil, okRdgR, *, Bool.and_self]
             all_goals exact Z2)
          | ((simp only [resV_def (X := dX cR) Tryz.func71, Tryz.results71]; first | exact J5 | refine J6 ?_)
             rw [HN.out (by simp [okRdgR, *])])
      · have hd : decide ((k : Int) < (rs.length : Int)) = false := by simpa using hlt
        have hkl : k = rs.length := by omega
        have h2 := HA.out
        rw [hkl, List.take_length] at h2
        have H2 := Lib.hid h2
        clear hr h2 hkl
        repeat' (first | refine goS ?_ | (apply U6; exact Z1; exact Z1; (focus (simp only [List.nil_append, List.append_nil]; first | exact K135 rfl _ _ _ _ _ _ | exact K28 rfl _ _ _ _ _ HL.out _)); simp only [pM, pN, rR, rP]) | refine go2 (fun hh => ?_) (fun hh => ?_) | fail)
        all_goals (simp only [resV_def (X := dX cR) Tryz.func71, Tryz.results71]; first | exact J5 | refine J6 ?_)
        all_goals (have h2 := H2.out; simp [machR, *])
    · cases h
  · cases h
theorem K71 {X : Ctx} (hX : X.intr 71 = some (flatFn sp71)) (sa ra : AV) (st : List Pt) (rs : List Rdg) (cx cy wx wy : Sp) (hl : slV ptC sa = some st) (hr : slV rdgC ra = some rs) (h : Heap) :
  Cl X 71 [.agg [sa, .int .i64 cx.lo, .int .i64 cx.hi, .int .i64 cy.lo, .int .i64 cy.hi, .int .i64 wx.lo, .int .i64 wx.hi, .int .i64 wy.lo, .int .i64 wy.hi, ra]] h (.ret (.bool (machR st cx cy wx wy rs)) h none) :=
 Cl.intr hX (by
  have hp : (AV.agg [sa, .int .i64 cx.lo, .int .i64 cx.hi, .int .i64 cy.lo, .int .i64 cy.hi, .int .i64 wx.lo, .int .i64 wx.hi, .int .i64 wy.lo, .int .i64 wy.hi, ra]).pur = true := by simp [AV.pur, AV.purL, sl_pur hl, sl_pur hr]
  simp [flatFn, viewVs, view_pur hp, sp71, hl, hr])
theorem machR_B (st : List Pt) (cx cy wx wy : Sp) (rs : List Rdg) : machR st cx cy wx wy rs = machB st cx cy wx wy rs := by
 have e1 : w64 (-12) = -12 := rfl
 have e2 : w64 (-3) = -3 := rfl
 have e3 : ∀ p, okRdgR p = okRdg p := fun p => by
  unfold okRdgR okRdg okPt
  have : w64 (-80) = -80 := rfl
  rw [this]
  simp only [Bool.and_assoc]
 have e4 : allB st 2 20 = pointsB st 2 4 20 := by
  unfold allB pointsB
  rw [Bool.and_comm]
  congr 1
  rw [List.not_any_eq_all_not]
  congr 1
  funext p
  simp
 have e5 : (!rs.any fun r => !okRdg r) = rs.all okRdgR := by
  rw [List.not_any_eq_all_not]
  congr 1
  funext p
  rw [e3]
  simp
 unfold machR machB
 rw [e1, e2, e4, e5]
 cases rs.all okRdgR <;> cases pointsB st 2 4 20 <;> cases spanB cx.lo cx.hi (-12) 12 6 <;> cases spanB cy.lo cy.hi (-12) 12 6 <;> cases spanB wx.lo wx.hi (-3) 3 2 <;> cases spanB wy.lo wy.hi (-3) 3 2 <;> cases decide ((rs.length : Int) ≤ 4) <;> rfl
end Go.AM
namespace Go.Proofs
open Go.Shelf
def Tryz.lays146_ren : Go.Shelf.Ren := ⟨fun | 146 => 183 | 221 => 201 | 268 => 207 | 138 => 208 | 143 => 209 | 195 => 217 | 197 => 218 | 218 => 219 | 219 => 220 | 260 => 227 | 217 => 228 | 225 => 229 | 224 => 230 | 267 => 231 | 266 => 235 | 314 => 236 | n => n, fun | 9 => 9 | 31 => 208 | 3 => 3 | 4 => 4 | 0 => 0 | 105 => 289 | 21 => 21 | 5 => 5 | 46 => 297 | 119 => 301 | 139 => 304 | 138 => 303 | 146 => 305 | 51 => 295 | n => n, fun | 1 => 1 | 3 => 2 | 4 => 3 | n => n⟩
theorem Tryz.lays146 : Go.Proofs.Lays.n146 Tryz.prog Tryz.lays146_ren := {
  mixed := by kernel_rfl
  f138 := Tryz.func208.trans (congrArg some (by kernel_rfl))
  f143 := Tryz.func209.trans (congrArg some (by kernel_rfl))
  f146 := Tryz.func183.trans (congrArg some (by kernel_rfl))
  f195 := Tryz.func217.trans (congrArg some (by kernel_rfl))
  f197 := Tryz.func218.trans (congrArg some (by kernel_rfl))
  f217 := Tryz.func228.trans (congrArg some (by kernel_rfl))
  f218 := Tryz.func219.trans (congrArg some (by kernel_rfl))
  f219 := Tryz.func220.trans (congrArg some (by kernel_rfl))
  f221 := Tryz.func201.trans (congrArg some (by kernel_rfl))
  f224 := Tryz.func230.trans (congrArg some (by kernel_rfl))
  f225 := Tryz.func229.trans (congrArg some (by kernel_rfl))
  f260 := Tryz.func227.trans (congrArg some (by kernel_rfl))
  f266 := Tryz.func235.trans (congrArg some (by kernel_rfl))
  f267 := Tryz.func231.trans (congrArg some (by kernel_rfl))
  f268 := Tryz.func207.trans (congrArg some (by kernel_rfl))
  f314 := Tryz.func236.trans (congrArg some (by kernel_rfl))
  t0 := Tryz.underlying0
  a0 := Tryz.isAgg0
  z0 := Tryz.sizeOf0
  v0 := Tryz.zeroValue0
  t3 := Tryz.underlying3
  a3 := Tryz.isAgg3
  z3 := Tryz.sizeOf3
  v3 := Tryz.zeroValue3
  t4 := Tryz.underlying4
  a4 := Tryz.isAgg4
  z4 := Tryz.sizeOf4
  v4 := Tryz.zeroValue4
  t5 := Tryz.underlying5
  a5 := Tryz.isAgg5
  z5 := Tryz.sizeOf5
  v5 := Tryz.zeroValue5
  t9 := Tryz.underlying9
  a9 := Tryz.isAgg9
  z9 := Tryz.sizeOf9
  v9 := Tryz.zeroValue9
  t21 := Tryz.underlying21
  a21 := Tryz.isAgg21
  z21 := Tryz.sizeOf21
  v21 := Tryz.zeroValue21
  t31 := Tryz.underlying208
  a31 := Tryz.isAgg208
  z31 := Tryz.sizeOf208
  v31 := Tryz.zeroValue208
  t46 := Tryz.underlying297
  a46 := Tryz.isAgg297
  z46 := Tryz.sizeOf297
  v46 := Tryz.zeroValue297
  t51 := Tryz.underlying295
  a51 := Tryz.isAgg295
  z51 := Tryz.sizeOf295
  v51 := Tryz.zeroValue295
  t105 := Tryz.underlying289
  a105 := Tryz.isAgg289
  z105 := Tryz.sizeOf289
  v105 := Tryz.zeroValue289
  t119 := Tryz.underlying301
  a119 := Tryz.isAgg301
  z119 := Tryz.sizeOf301
  t138 := Tryz.underlying303
  a138 := Tryz.isAgg303
  z138 := Tryz.sizeOf303
  v138 := Tryz.zeroValue303
  t139 := Tryz.underlying304
  a139 := Tryz.isAgg304
  z139 := Tryz.sizeOf304
  v139 := Tryz.zeroValue304
  t146 := Tryz.underlying305
  a146 := Tryz.isAgg305
  z146 := Tryz.sizeOf305
  v146 := Tryz.zeroValue305
  g1 := by kernel_rfl
  g3 := by kernel_rfl
  g4 := by kernel_rfl }
end Go.Proofs
namespace Go.AM
open Go Go.Proofs Go.Shelf Go.RowKit
variable [Keep]
def spL (b : UInt8) : List UInt8 → List (List UInt8)
 | [] => [[]]
 | c :: r => if c = b then [] :: spL b r else match spL b r with | [] => [[c]] | p :: q => (c :: p) :: q
theorem spL_ne (b : UInt8) (s : List UInt8) : spL b s ≠ [] := by
 cases s with
 | nil => simp [spL]
 | cons c r =>
  simp only [spL]
  split
  ·simp
  ·split <;> simp
theorem spL_no {b : UInt8} : ∀ {s : List UInt8}, s.count b = 0 → spL b s = [s] := by
 intro s
 induction s with
 | nil => intro _; rfl
 | cons c r ih =>
  intro h
  rw [List.count_cons] at h
  have hc : ¬ c = b := fun e => by subst e; simp at h
  have hr : r.count b = 0 := by omega
  simp only [spL, if_neg hc, ih hr]
theorem splitK_one (b : UInt8) : ∀ (s : List UInt8) (k : Nat), s.count b = k → Lib.splitK [b] 0 k s = spL b s := by
 intro s
 induction s with
 | nil =>
  intro k h
  simp at h
  subst h
  rfl
 | cons c r ih =>
  intro k h
  rw [List.count_cons] at h
  by_cases e : c = b
  ·subst e
   simp only [beq_self_eq_true, if_true] at h
   obtain ⟨j, rfl⟩ : ∃ j, k = j + 1 := ⟨k - 1, by omega⟩
   have hi : Lib.index (c :: r) [c] = 0 := by rw [Lib.index_one]; simp [Lib.indexByte]
   have := ih j (by omega)
   simp only [Lib.splitK, hi, spL, if_true]
   simp [this]
  ·have hb : (c == b) = false := by simpa using e
   simp only [hb] at h
   have hk : r.count b = k := by simpa using h
   cases k with
   | zero =>
    rw [Lib.splitK, spL, if_neg e, spL_no hk]
   | succ j =>
    have hi : Lib.index (c :: r) [b] = if Lib.indexByte r b == -1 then -1 else Lib.indexByte r b + 1 := by rw [Lib.index_one]; simp [Lib.indexByte, e]
    have hge := Lib.indexByte_ge r b
    have ir : Lib.index r [b] = Lib.indexByte r b := Lib.index_one _ _
    have hne : ¬ Lib.indexByte r b = -1 := fun q => by
     have := Lib.indexByte_none q
     have hm : b ∈ r := List.count_pos_iff.1 (by omega)
     obtain ⟨i, hi2, h3⟩ := List.mem_iff_getElem.1 hm
     exact this i (by rw [List.getElem?_eq_getElem hi2, h3])
    have h2 := ih (j + 1) hk
    have hq : (Lib.indexByte r b == -1) = false := by simpa using hne
    rw [hq] at hi
    simp only [Bool.false_eq_true, if_false] at hi
    have hq2 : (Lib.indexByte r b + 1 == -1) = false := by simp; omega
    simp only [Lib.splitK, ir, hq, Bool.false_eq_true, if_false] at h2
    simp only [Lib.splitK, hi, hq2, Bool.false_eq_true, if_false, spL, if_neg e, ← h2]
    obtain ⟨n, hn⟩ : ∃ n : Nat, Lib.indexByte r b = n := ⟨(Lib.indexByte r b).toNat, by omega⟩
    rw [hn]
    have e1 : ((n : Int) + 1).toNat = n + 1 := by omega
    simp [e1]
theorem split_one {P : Program} {ρ : Ren} (L : Lays.n146 P ρ) (hi9 : (P.info? (ρ.t 9)).map (fun i => (i.zero, i.size, i.bytes)) = some (some (.string ByteArray.empty), 1, 16)) (s : ByteArray) (c : UInt8) (w : World) (hs : s.size < 4294967281) :
  Calls P (ρ.f 146) #[.string s, .string ⟨#[c]⟩] w fun e w' =>
   e = .returned (.slice (some ⟨w.heap.size, 0, none⟩) (Lib.countB s ⟨#[c]⟩ + 1) (Lib.countB s ⟨#[c]⟩ + 1)) ∧ w' = w.alloc (.cells ((Lib.splitB ⟨#[c]⟩ 0 (Lib.countB s ⟨#[c]⟩) s).map Value.string).toArray (ρ.t 9)) := by
 have h1 : 1 ≤ (⟨#[c]⟩ : ByteArray).size := Nat.le_refl 1
 have hle := Lib.countB_le ⟨#[c]⟩ h1 s.size s (Nat.le_refl _)
 have hlen := Lib.splitB_all ⟨#[c]⟩ h1 0 _ s rfl
 have hC : Calls P (ρ.f 138) #[.string s, .string ⟨#[c]⟩] w fun e w' => e = .returned (.int .i64 (Lib.countB s ⟨#[c]⟩)) ∧ w' = w := by
  refine (Any.strings_Count_one { L with } s c w).mono fun e w' ⟨he, hw⟩ => ⟨?_, hw⟩
  rw [he]
  show _ = Ending.returned (Value.int .i64 ((Lib.count s.data.toList [c] : Nat) : Int))
  rw [Lib.count_one]
  rfl
 have c0 := Any.strings_genSplit_core { L with } hi9 s ⟨#[c]⟩ 0 (-1) (Lib.countB s ⟨#[c]⟩ + 1) w hs h1 (Nat.zero_le _)
  (fun x d hx => (Any.strings_Index_one { L with } x c _).mono fun e w' ⟨he, hw⟩ => ⟨by
   rw [he, show Lib.indexB x ⟨#[c]⟩ = Lib.indexByte x.data.toList c from Lib.index_one _ _], hw⟩)
  hC (by decide) (by decide) (by rw [if_pos (by decide)]; omega)
 rw [Nat.add_sub_cancel, hlen] at c0
 have e2 : Lib.cellsOf (Lib.splitB ⟨#[c]⟩ 0 (Lib.countB s ⟨#[c]⟩) s) (Lib.countB s ⟨#[c]⟩ + 1) = ((Lib.splitB ⟨#[c]⟩ 0 (Lib.countB s ⟨#[c]⟩) s).map Value.string).toArray := by rw [← hlen]; exact Lib.cellsOf_full _
 rw [e2] at c0
 have t3 := L.t3; have t9 := L.t9; have t31 := L.t31
 have a3 := L.a3; have a9 := L.a9; have a31 := L.a31
 have z3 := L.z3; have v3 := L.v3; have z9 := L.z9; have v9 := L.v9; have z31 := L.z31; have v31 := L.v31
 have e221 : ∀ args w, (callFunc (ρ.f 221) args).run P w = .ok (.enter (ρ.f 221) args) w := enters_of L.f221 (by kernel_rfl) rfl
 go_enter L.f146, Body.n146_ntmps ρ
 go_wp2_with (go_at_fn (ρ.f 221); refine c0.mono ?_; rintro e w' ⟨rfl, hw⟩; rw [hw])
 go_ret
 exact ⟨rfl, rfl⟩
theorem lib_strs {P : Program} {f : FuncId} {C : Cfg} {h : Heap} {w : World} {vs : Array Value} (r : WR C h w) (xs : List (List UInt8)) (T : TypeId)
  (hc : Calls P f vs w fun e w' => e = .returned (.slice (some ⟨w.heap.size, 0, none⟩) xs.length xs.length) ∧ w' = w.alloc (.cells ((xs.map fun s => Value.string ⟨⟨s⟩⟩).toArray) T)) (cs : List Frame) :
  Left P f C h w (lone (Frame.enter P f vs .normal) cs w) cs (.ret (.vslice (xs.map AV.str)) h none) := by
 obtain ⟨e, w', fr, ⟨rfl, rfl⟩, hst, hfn, hlv⟩ := hc cs
 have hsame : ∀ β, β < w.heap.size → (w.alloc (.cells ((xs.map fun s => Value.string ⟨⟨s⟩⟩).toArray) T)).heap[β]? = w.heap[β]? := fun β hb => by
  simp only [World.alloc, Array.getElem?_push]
  rw [if_neg (by omega)]
 generalize hw' : w.alloc (.cells ((xs.map fun s => Value.string ⟨⟨s⟩⟩).toArray) T) = w' at *
 have hcell : ∀ x u, w.cell? x = some u → w'.cell? x = some u := by
  intro x u hx
  have hlt : x.block < w.heap.size := by
   rcases Nat.lt_or_ge x.block w.heap.size with h | h
   ·exact h
   ·simp [World.cell?, Array.getElem?_eq_none h] at hx
  unfold World.cell? at hx ⊢
  rw [hsame _ hlt]
  exact hx
 have hnew : ∀ (i : Nat) (s : List UInt8), xs[i]? = some s → w'.cell? ⟨w.heap.size, i, none⟩ = some (.string ⟨⟨s⟩⟩) := fun i s hi => by
  rw [← hw']
  rw [World.cell?_alloc_at _ _ _ _ rfl, List.getElem?_toArray, List.getElem?_map, hi]
  rfl
 let D : Cfg := ⟨C.mu, fun x => if x.block = w.heap.size then w'.cell? x else C.sig x⟩
 have hDs : ∀ x v, C.sig x = some v → D.sig x = some v := fun x v e => by
  have hb := WR.sig_lt (F := Fr.mk 0 false .nil .nil h [] none) r e
  show (if x.block = w.heap.size then w'.cell? x else C.sig x) = some v
  rw [if_neg (by omega)]; exact e
 have hD : C.le D := ⟨fun _ _ e => e, hDs⟩
 have hbase : Base C w' := r.base.on (fun _ _ e => e) (fun x v e => hsame _ (WR.sig_lt (F := Fr.mk 0 false .nil .nil h [] none) r e))
 have hsz : w.heap.size ≤ w'.heap.size := by rw [← hw']; simp
 refine ⟨D, w', fr, _, hst, hlv, hfn, ?_, ⟨fun x v e => ?_, fun id blk e => ?_, r.inj, fun id blk L1 x v e k ks => ?_, r.fresh, hbase.on hDs (fun _ _ _ => rfl)⟩, ?_⟩
 ·have := VR.vslice (C := D) (l := xs.map AV.str) (sz := 1) (b := w.heap.size) (o := 0) (cap := xs.length) (fun i _ => .string ⟨⟨xs.getD i []⟩⟩) (by simp) (fun e he => by
   obtain ⟨s, _, rfl⟩ := List.mem_map.1 he
   rfl) (fun i j hi hj => ?_) (fun i j hi hj => ?_) (fun e he c hc => by
   obtain ⟨s, _, rfl⟩ := List.mem_map.1 he
   simp only [AV.cells, List.mem_singleton] at hc
   subst hc
   rfl)
  ·rw [List.length_map] at this
   exact this
  ·have hj0 : j = 0 := by omega
   subst hj0
   rw [List.length_map] at hi
   show (if w.heap.size = w.heap.size then w'.cell? _ else _) = _
   rw [if_pos rfl]
   have := hnew i xs[i] (List.getElem?_eq_getElem hi)
   simp only [Nat.mul_one, Nat.zero_add, Nat.add_zero]
   rw [this]
   simp [List.getD, hi]
  ·have hj0 : j = 0 := by omega
   subst hj0
   rw [List.length_map] at hi
   have e1 : ((xs.map AV.str).getD i .junk).cells.getD 0 .junk = .str (xs.getD i []) := by simp [List.getD, hi, AV.cells]
   rw [e1]
   exact .str _
 ·have e : (if x.block = w.heap.size then w'.cell? x else C.sig x) = some v := e
  by_cases hb : x.block = w.heap.size
  ·rw [if_pos hb] at e
   exact e
  ·rw [if_neg hb] at e
   exact hcell _ _ (r.sig _ _ e)
 ·obtain ⟨L', k1, k2⟩ := r.blk id blk e
  exact ⟨L', k1, k2.same hD (hsame _ k2.lt)⟩
 ·have ks : (if x.block = w.heap.size then w'.cell? x else C.sig x) = some v := ks
  obtain ⟨L2, k1, k2⟩ := r.blk id blk e
  rw [k] at k1
  cases k1
  have := k2.lt
  by_cases hb : x.block = w.heap.size
  ·omega
  ·rw [if_neg hb] at ks
   exact r.apart _ _ _ _ _ e k ks
 ·refine { le := hD, os := by rw [← hw']; rfl, tape := by rw [← hw']; rfl, output := by rw [← hw']; rfl, size := hsz, same := fun β hb _ _ => hsame β hb, live := fun β hb l => .inl l, own := fun _ _ o => o.elim, sig := fun x u hb e => .inl ?_, next := Nat.le_refl _ }
  have e : (if x.block = w.heap.size then w'.cell? x else C.sig x) = some u := e
  rw [if_neg (by omega)] at e
  exact e
def spSplit : List AV → Option AV
 | [.str s, .str [c]] => if Nat.ble s.length maxL then some (.vslice ((spL c s).map AV.str)) else none
 | _ => none
theorem split_intr {P : Program} {ρ : Ren} (L : Lays.n146 P ρ) (hi9 : (P.info? (ρ.t 9)).map (fun i => (i.zero, i.size, i.bytes)) = some (some (.string ByteArray.empty), 1, 16)) (hb : ∃ fn, P.funcs[ρ.f 146]? = some fn ∧ fn.body.isSome = true) : IntrFn P (ρ.f 146) (atOnce spSplit) := by
 intro args h v h' hg C w vs r hv
 refine ⟨hb, fun cs => ?_⟩
 unfold atOnce spSplit at hg
 split at hg
 ·rename_i v0 hsp
  split at hsp
  ·rename_i s c
   split at hsp
   ·rename_i hc
    cases hsp
    cases hg
    rw [Nat.ble_eq] at hc
    obtain ⟨u, t, rfl, ha, ht⟩ := hv.two
    cases ha
    cases ht
    refine lib_strs r (spL c s) (ρ.t 9) ?_ cs
    refine (split_one L hi9 ⟨⟨s⟩⟩ c w (by show s.length < _; unfold maxL at hc; omega)).mono fun e w' q => ?_
    have hcnt : Lib.countB ⟨⟨s⟩⟩ ⟨#[c]⟩ = s.count c := Lib.count_one c s
    have hdat := Lib.splitB_data ⟨#[c]⟩ 0 (Lib.countB ⟨⟨s⟩⟩ ⟨#[c]⟩) ⟨⟨s⟩⟩
    have hdat2 : (Lib.splitB ⟨#[c]⟩ 0 (Lib.countB ⟨⟨s⟩⟩ ⟨#[c]⟩) ⟨⟨s⟩⟩).map (·.data.toList) = spL c s := hdat.trans (splitK_one c s _ hcnt.symm)
    have hlen := congrArg List.length hdat2
    rw [List.length_map, Lib.splitB_all ⟨#[c]⟩ (Nat.le_refl 1) 0 _ ⟨⟨s⟩⟩ rfl] at hlen
    have hval : (Lib.splitB ⟨#[c]⟩ 0 (Lib.countB ⟨⟨s⟩⟩ ⟨#[c]⟩) ⟨⟨s⟩⟩).map Value.string = (spL c s).map fun s => Value.string ⟨⟨s⟩⟩ := by
     rw [← hdat2, List.map_map]
     rfl
    rw [hlen, hval] at q
    exact q
   ·cases hsp
  ·cases hsp
 ·cases hg
theorem r183 : Tryz.lays146_ren.f 146 = 183 := rfl
theorem b183 : ∃ fn, Tryz.prog.funcs[183]? = some fn ∧ fn.body.isSome = true := ⟨_, Tryz.func183, by kernel_rfl⟩
theorem F183 : IntrFn Tryz.prog 183 (atOnce spSplit) := by
 have h := split_intr Tryz.lays146 (by kernel_rfl) (by rw [r183]; exact b183)
 rw [r183] at h
 exact h
theorem K183 {X : Ctx} (hX : X.intr 183 = some (atOnce spSplit)) (s : List UInt8) (c : UInt8) (hs : s.length ≤ maxL) (h : Heap) : Cl X 183 [.str s, .str [c]] h (.ret (.vslice ((spL c s).map AV.str)) h none) :=
 Cl.intr hX (by
  have : Nat.ble s.length maxL = true := by rw [Nat.ble_eq]; exact hs
  simp only [atOnce, spSplit, this, if_true])
end Go.AM
namespace Go.AM
open Go
variable [Keep]
section
variable {X : Ctx} {ops : Array Oper} {K P : AV → Fr → Prop} {F : Fr} {d : Option Tmp} {T : TypeId} {p : String} {af : Array Edge}
theorem WO1.b2s {s t e : TypeId} {x : Operand} {a : AV} {l : List AV} {bs : List UInt8} (hx : F.opv x = some a) (h1 : X.P.underlying s = some (.slice e)) (h2 : X.P.underlying t = some .string) (hu : X.P.underlying e = some (.int .u8)) (hl : F.hp.elems a = some l) (hb : bytesOf l = some bs) (he : isEffAt X F.f ⟨d, .convert s t x, T, p, af, none⟩ = false)
  (h : K (.str bs) (F.put d (.str bs))) : WO1 X ops ⟨d, .convert s t x, T, p, af, none⟩ F K P := by
 refine U4 (v := .str bs) ?_ he h
 have hu' : isU8 X.P e = true := by simp [isU8, hu]
 have hc : convV X.P s t a = none := by simp [convV, h1, h2]
 simp only [rdV, Fr.convV1, hx, hc, strV, h1, h2, hu', if_true, hl, hb]
theorem WO1.sadd {t yt : TypeId} {x y : Operand} {a b : List UInt8} (hx : F.opv x = some (.str a)) (hy : F.opv y = some (.str b)) (he : isEffAt X F.f ⟨d, .binOp .add t x y yt, T, p, af, none⟩ = false) (hl : a.length + b.length ≤ 4294967296)
  (h : K (.str (a ++ b)) (F.put d (.str (a ++ b)))) : WO1 X ops ⟨d, .binOp .add t x y yt, T, p, af, none⟩ F K P := by
 refine U4 (v := .str (a ++ b)) ?_ he h
 simp only [rdV, Fr.binV2, hx, hy, binV_str, strOp, if_pos hl]
theorem WO1.s2b {s t e : TypeId} {x : Operand} {l : List UInt8} {sl : Tmp} (hx : F.opv x = some (.str l)) (h1 : X.P.underlying s = some .string) (h2 : X.P.underlying t = some (.slice e)) (hu : X.P.underlying e = some (.int .u8)) (hn : l ≠ []) (he : isEffAt X F.f ⟨some sl, .convert s t x, T, p, af, none⟩ = true)
  (h : K (.row F.hp.next 0 l.length) (({ F with hp := F.hp.new (.rw 1 (l.map fun b => .int .u8 b.toNat)) } : Fr).put (some sl) (.row F.hp.next 0 l.length))) : WO1 X ops ⟨some sl, .convert s t x, T, p, af, none⟩ F K P := by
 refine U5 (v := .row F.hp.next 0 l.length) (F' := { F with hp := F.hp.new (.rw 1 (l.map fun b => .int .u8 b.toNat)) }) he (fun cl rd => ?_) h
 have hu' : isU8 X.P e = true := by simp [isU8, hu]
 have hc : isU8 X.P e = true ∧ l ≠ [] := ⟨hu', hn⟩
 simp only [efV, Fr.bytesE, h1, h2, hx, if_pos hc]
end
theorem strOp_eql (a b : List UInt8) : strOp .eql a b = some (.bool (a == b)) := rfl
theorem strOp_neq (a b : List UInt8) : strOp .neq a b = some (.bool (a != b)) := rfl
attribute [go_sem] strOp_eql strOp_neq
theorem bytesOf_one (n : Int) : bytesOf [.int .u8 n] = some [UInt8.ofNat n.toNat] := rfl
theorem bytesOf_map : ∀ l : List UInt8, bytesOf (l.map fun b => .int .u8 b.toNat) = some l := by
 intro l
 induction l with
 | nil => rfl
 | cons b l ih =>
  simp only [List.map_cons, bytesOf, ih]
  congr 2
  simp
end Go.AM
namespace Go.AM
open Go Go.Proofs
variable [Keep]
attribute [local irreducible] W WO WO1 WD WQ WT thenQ blockQ endR isRet retK Cl ClR
theorem dig_small {u : Nat} (h : u < 10) : digF 20 u = [UInt8.ofNat (48 + u)] := by
 show (if Nat.blt u 10 then _ else _) = _
 rw [if_pos (by rw [Nat.blt_eq]; exact h)]
theorem dig_step {u : Nat} (h : 10 ≤ u) (hu : u < 10 ^ 18) : digF 20 u = digF 20 (u / 10) ++ [UInt8.ofNat (48 + u % 10)] := by
 have e : digF 20 u = digF 19 (u / 10) ++ [UInt8.ofNat (48 + u % 10)] := by
  show (if Nat.blt u 10 then _ else _) = _
  rw [if_neg (by rw [Nat.blt_eq]; omega)]
 rw [e, digF_ok 19 (u / 10) (by omega) (by omega), digF_ok 20 (u / 10) (by omega) (by omega)]
theorem digF_len : ∀ (f n : Nat), (digF f n).length ≤ f := by
 intro f
 induction f with
 | zero => intro n; exact Nat.le_refl _
 | succ f ih =>
  intro n
  unfold digF
  split
  ·simp
  ·rw [List.length_append]
   have := ih (n / 10)
   simp only [List.length_cons, List.length_nil]
   omega
theorem itoa_len (n : Int) : (itoaF n).length ≤ 21 := by
 cases n with
 | ofNat u => have := digF_len 20 u; show (digF 20 u).length ≤ 21; omega
 | negSucc u => have := digF_len 20 (u + 1); show (45 :: digF 20 (u + 1)).length ≤ 21; simp only [List.length_cons]; omega
def preD (n : Nat) : List UInt8 := if n < 10 then [] else digF 20 (n / 10)
theorem dig_pre {n : Nat} (hu : n < 10 ^ 18) : digF 20 n = preD n ++ [UInt8.ofNat (48 + n % 10)] := by
 unfold preD
 by_cases h : n < 10
 ·rw [if_pos h, dig_small h, Nat.mod_eq_of_lt h]
  rfl
 ·rw [if_neg h, dig_step (by omega) hu]
theorem u8_wrap {n : Nat} (h : n < 256) : IntKind.u8.wrap ((n : Nat) : Int) = (n : Int) := by
 simp [IntKind.wrap, IntKind.bits, IntKind.signed]
 omega
set_option maxHeartbeats 1000000 in
theorem C144p (c : Itr) (hc : c 144 = none) (n0 : Nat) (hn0 : n0 ≤ 1000000) (h : Heap) : Cl (dX c) 144 [.int .i64 (n0 : Int)] h (.ret (.str (digF 20 n0)) h none) := by
 refine ClR.cl ?_
 have hneg : decide (((n0 : Nat) : Int) < 0) = false := by simp
 have b10 : ((10 : Int) == 0) = false := rfl
 have hm : ((n0 : Nat) : Int).tmod 10 = ((n0 % 10 : Nat) : Int) := by rw [Int.tmod_eq_emod_of_nonneg (by omega)]; omega
 have hw : IntKind.i64.wrap (48 + ((n0 % 10 : Nat) : Int)) = ((48 + n0 % 10 : Nat) : Int) := by rw [wrap_small (by omega) (by omega)]; omega
 have hu : IntKind.u8.wrap ((48 + n0 % 10 : Nat) : Int) = ((48 + n0 % 10 : Nat) : Int) := u8_wrap (by omega)
 refine ClR.walk (c := _) hc Tryz.func144 rfl (by kernel_rfl) rfl (fun e => by cases e) ?_
 simp only [entryEnv, Nat.reduceAdd]
 repeat' (first | (apply WO1.b2s (e := 5); exact Z1; exact Z2; exact Z2; exact Z2; exact Z1; (focus (exact bytesOf_one _)); exact rfl; simp only [pM, pN]) | refine go1 ?_ | refine go2 (fun hh => ?_) (fun hh => ?_) | fail)
 refine W.loopN (n0 + 1) (fun k F => ∃ e n s, F = Fr.mk 144 false e .nil h [] none ∧ digF 20 n0 = preD n ++ s ∧ n + k ≤ n0 ∧ e.get 0 = some (.int .i64 ((n : Nat) : Int)) ∧ e.get 3 = some (.str s)) ?_ ?_
 ·refine ⟨_, n0, [UInt8.ofNat (48 + n0 % 10)], rfl, ?_, ?_, ?_, ?_⟩
  ·exact dig_pre (by omega)
  ·omega
  ·simp [go_sem, *]
  ·simp only [Int.toNat_natCast, go_sem, *, Nat.reduceLT, Int.reduceEq, Int.reduceBEq, Int.reduceLE, Int.reduceLT, Nat.reduceAdd, Nat.reduceBEq, Nat.reduceEqDiff, reduceIte, Nat.reduceLeDiff, Nat.reduceMul, Nat.reduceSub, reduceCtorEq]
 clear hneg hm hw hu
 rintro k F ⟨e, n, s, rfl, hs, hk, h0, h3⟩
 have hls : s.length ≤ 20 := by
  have h1 := congrArg List.length hs
  rw [List.length_append] at h1
  have := digF_len 20 n0
  omega
 have HS := Lib.hid hs
 clear hs
 by_cases h10 : 10 ≤ n
 ·have hd : decide ((n : Int) ≥ 10) = true := by simp; omega
  have hq : ((n : Nat) : Int).tdiv 10 = ((n / 10 : Nat) : Int) := by rw [Int.tdiv_eq_ediv_of_nonneg (by omega)]; omega
  have hwq : IntKind.i64.wrap ((n / 10 : Nat) : Int) = ((n / 10 : Nat) : Int) := wrap_small (by omega) (by omega)
  have hm : ((n / 10 : Nat) : Int).tmod 10 = ((n / 10 % 10 : Nat) : Int) := by rw [Int.tmod_eq_emod_of_nonneg (by omega)]; omega
  have hw : IntKind.i64.wrap (48 + ((n / 10 % 10 : Nat) : Int)) = ((48 + n / 10 % 10 : Nat) : Int) := by rw [wrap_small (by omega) (by omega)]; omega
  have hu : IntKind.u8.wrap ((48 + n / 10 % 10 : Nat) : Int) = ((48 + n / 10 % 10 : Nat) : Int) := u8_wrap (by omega)
  have hnx : digF 20 n0 = preD (n / 10) ++ ([UInt8.ofNat (48 + n / 10 % 10)] ++ s) := by
   rw [HS.out, ← List.append_assoc, ← dig_pre (by omega), preD, if_neg (by omega)]
  have HNX := Lib.hid hnx
  have HK := Lib.hid hk
  clear hk hnx
  repeat' (first | (apply WO1.b2s (e := 5); exact Z1; exact Z2; exact Z2; exact Z2; exact Z1; (focus (exact bytesOf_one _)); exact rfl; simp only [pM, pN]) | (apply WO1.sadd; exact Z1; exact Z1; exact rfl; (focus (simp only [List.length_append, List.length_cons, List.length_nil]; omega)); simp only [pM, pN]) | refine go1 ?_ | refine go2 (fun hh => ?_) (fun hh => ?_) | fail)
  refine ⟨by have := HK.out; omega, _, n / 10, _, rfl, HNX.out, by have := HK.out; omega, ?_, ?_⟩
  all_goals (simp only [Int.toNat_natCast, go_sem, *, Nat.reduceLT, Int.reduceEq, Int.reduceBEq, Int.reduceLE, Int.reduceLT, Nat.reduceAdd, Nat.reduceBEq, Nat.reduceEqDiff, reduceIte, Nat.reduceLeDiff, Nat.reduceMul, Nat.reduceSub, reduceCtorEq]; done)
 ·have hd : decide ((n : Int) ≥ 10) = false := by simp; omega
  have hv : digF 20 n0 = s := by rw [HS.out, preD, if_pos (by omega)]; rfl
  have HV := Lib.hid hv
  clear hv hk
  repeat' (first | refine goS ?_ | refine go2 (fun hh => ?_) (fun hh => ?_) | fail)
  all_goals (simp only [resV_def (X := dX c) Tryz.func144, Tryz.results144]; first | exact J5 | refine J6 ?_)
  simp [isR, frzRes, dX_frz, dFrz, HV.out]
def sp144 : List AV → Option AV
 | [.int .i64 n] => if (decide (-1000000 ≤ n) && decide (n ≤ 1000000)) = true then some (.str (itoaF n)) else none
 | _ => none
theorem p144 : ∀ args v, sp144 args = some v → v.pur = true := by
 intro args v h
 unfold sp144 at h
 split at h
 ·split at h
  ·cases h; rfl
  ·cases h
 ·cases h
theorem F144 : IntrFn Tryz.prog 144 (pureFn sp144) := by
 refine pure_fn (X := dX i0) i0_sound p144 ?_
 intro args v h
 unfold sp144 at h
 split at h
 ·rename_i n
  split at h
  ·rename_i hg
   have h := Option.some.inj h
   subst h
   simp only [Bool.and_eq_true, decide_eq_true_eq] at hg
   cases n with
   | ofNat u =>
    have := C144p i0 rfl u (by simp at hg; omega) emptyHp
    unfold ClR
    exact ⟨_, this, isRet_ret.2 rfl⟩
   | negSucc u =>
    have hcl := C144p i0 rfl (u + 1) (by omega) emptyHp
    have hd : decide (Int.negSucc u < 0) = true := by simp
    have hw : IntKind.i64.wrap (-Int.negSucc u) = ((u + 1 : Nat) : Int) := by rw [wrap_small (by omega) (by omega)]; omega
    have hiv : itoaF (Int.negSucc u) = [45] ++ digF 20 (u + 1) := rfl
    have HI := Lib.hid hiv
    have hls := digF_len 20 (u + 1)
    simp only [emptyHp] at hcl
    clear hiv hg
    generalize Int.negSucc u = n at *
    have k144 := hcl
    refine ClR.walk (c := _) rfl Tryz.func144 rfl (by kernel_rfl) rfl isRet_fail ?_
    simp only [entryEnv, Nat.reduceAdd, emptyHp]
    repeat' (first | (apply WO1.sadd; exact Z1; exact Z1; exact rfl; (focus (simp only [List.length_append, List.length_cons, List.length_nil]; omega)); simp only [pM, pN]) | refine go1 ?_ | (apply U6; exact Z1; exact Z1; (focus (simp only [List.nil_append, List.append_nil]; first | exact k144)); simp only [pM, pN, rR, rP]) | refine go2 (fun hh => ?_) (fun hh => ?_) | fail)
    all_goals (simp only [resV_def (X := dX i0) Tryz.func144, Tryz.results144]; first | exact J5 | refine J6 ?_)
    rw [HI.out]
    rfl
  ·cases h
 ·cases h
def smallI (n : Int) : Bool := decide (-1000000 ≤ n) && decide (n ≤ 1000000)
theorem K144 {X : Ctx} (hX : X.intr 144 = some (pureFn sp144)) (n : Int) (hn : smallI n = true) (h : Heap) : Cl X 144 [.int .i64 n] h (.ret (.str (itoaF n)) h none) :=
 Cl.intr hX (by unfold smallI at hn; simp [pureFn, AV.pur, AV.purL, sp144, hn])
theorem K181 {X : Ctx} (hX : X.intr 181 = some (atOnce spItoa)) (n : Int) (hn : smallI n = true) (h : Heap) : Cl X 181 [.int .i64 n] h (.ret (.str (itoaF n)) h none) :=
 Cl.intr hX (by
  unfold smallI at hn
  simp only [Bool.and_eq_true, decide_eq_true_eq] at hn
  have : (decide (-9223372036854775808 ≤ n) && decide (n ≤ 9223372036854775807)) = true := by
   simp only [Bool.and_eq_true, decide_eq_true_eq]; omega
  simp only [atOnce, spItoa, this, if_true])
def lineT (w : List UInt8) (ns : List Int) : List UInt8 := w ++ ns.flatMap fun n => 32 :: itoaF n
theorem line_len (w : List UInt8) : ∀ ns : List Int, (lineT w ns).length ≤ w.length + 22 * ns.length := by
 intro ns
 unfold lineT
 rw [List.length_append]
 induction ns with
 | nil => simp
 | cons n ns ih =>
  have := itoa_len n
  simp only [List.flatMap_cons, List.length_append, List.length_cons]
  omega
theorem line_next {w : List UInt8} {ns : List Int} {k : Nat} {n : Int} (h : ns[k]? = some n) : lineT w (ns.take (k + 1)) = lineT w (ns.take k) ++ ([32] ++ itoaF n) := by
 unfold lineT
 rw [take_next h, List.flatMap_append, ← List.append_assoc]
 simp
def sp180 : List AV → Option AV
 | [.str w, a] => match slV intC a with
  | some ns => if (ns.all smallI && decide (w.length ≤ 1000)) = true then some (.str (lineT w ns)) else none
  | none => none
 | _ => none
theorem p180 : ∀ args v, sp180 args = some v → v.pur = true := by
 intro args v h
 unfold sp180 at h
 split at h
 ·split at h
  ·split at h
   ·cases h; rfl
   ·cases h
  ·cases h
 ·cases h
noncomputable def cXB : Itr
 | 144 => some (pureFn sp144)
 | 181 => some (atOnce spItoa)
 | _ => none
theorem cXB_sound (hT : TabK Tryz.prog) : Sound (dX cXB) := dX_sound (fun f g h => by
 unfold cXB at h
 split at h
 ·cases h; exact F144
 ·cases h; exact F181 hT
 ·cases h)
theorem line_idx {a : AV} {l : List Int} (h : slV intC a = some l) {k : Nat} {n : Int} (hp : l[k]? = some n) (H : Heap) : indexAddrV Tryz.prog H 39 a (.int .i64 ↑k) = some (.vptr [.int .i64 n]) :=
 (slV_is h).1.idx (x := .int .i64 n) Tryz.underlying39 ty_lay3 (by simp [hp, intC]) rfl
set_option maxHeartbeats 1000000 in
theorem F180 (hT : TabK Tryz.prog) : IntrFn Tryz.prog 180 (pureFn sp180) := by
 refine pure_fn (X := dX cXB) (cXB_sound hT) p180 ?_
 intro args v h
 unfold sp180 at h
 split at h
 ·rename_i w a
  split at h
  ·rename_i ns ha
   split at h
   ·rename_i hg
    have h := Option.some.inj h
    subst h
    have hlen := sl_len ha
    have hout := sl_out ha
    have hmax := sl_max ha
    simp only [Bool.and_eq_true, decide_eq_true_eq] at hg
    obtain ⟨hg, hwl⟩ := hg
    have hmx : ns.length ≤ 65536 := hmax
    have HG := Lib.hid hg
    have HA := Lib.hid ha
    clear hg ha
    refine ClR.walk (c := _) rfl Tryz.func180 rfl (by kernel_rfl) rfl isRet_fail ?_
    simp only [entryEnv, Nat.reduceAdd, emptyHp]
    repeat' (first | refine goS ?_ | refine go2 (fun hh => ?_) (fun hh => ?_) | fail)
    refine W.loopN ns.length (fun k F => ∃ e, F = Fr.mk 180 false e .nil ⟨0, .nil⟩ [] none ∧ e.get 0 = some (.str (lineT w (ns.take k))) ∧ e.get 7 = some a ∧ e.get 8 = some (.int .i64 ↑ns.length) ∧ e.get 9 = some (.int .i64 ↑k) ∧ k ≤ ns.length) ?_ ?_
    ·refine ⟨_, rfl, ?_, ?_, ?_, ?_, ?_⟩ <;> simp [lineT, go_sem, *, Nat.reduceLT, Int.reduceEq, Int.reduceBEq, Int.reduceLE, Int.reduceLT, Nat.reduceAdd, Nat.reduceBEq, Nat.reduceEqDiff, reduceIte, Nat.reduceLeDiff, Nat.reduceMul, Nat.reduceSub, reduceCtorEq]
    rintro k F ⟨e, rfl, h0, h7, h8, h9, hk⟩
    by_cases hlt : k < ns.length
    ·obtain ⟨n, hn⟩ := get_some hlt
     have hd : decide ((k : Int) < (ns.length : Int)) = true := by simpa using hlt
     have hw := wrap_succ hlt hmax
     have hix := fun H => line_idx HA.out hn H
     have k181 := fun h => K181 (X := dX cXB) rfl n (List.all_eq_true.1 HG.out n (List.mem_of_getElem? hn)) h
     have HNX := Lib.hid (line_next (w := w) hn)
     have hl1 := line_len w (ns.take k)
     rw [List.length_take] at hl1
     have hl2 := itoa_len n
     clear hn
     generalize lineT w (ns.take k) = lt at *
     repeat' (first | (apply WO1.sadd; exact Z1; exact Z1; exact rfl; (focus (simp only [List.length_append, List.length_cons, List.length_nil]; omega)); simp only [pM, pN]) | refine go1 ?_ | (apply U6; exact Z1; exact Z1; (focus (simp only [List.nil_append, List.append_nil]; first | exact k181 _)); simp only [pM, pN, rR, rP]) | refine go2 (fun hh => ?_) (fun hh => ?_) | fail)
     refine ⟨hlt, _, rfl, ?_, ?_, ?_, ?_, by omega⟩
     ·rw [HNX.out]; simp only [go_sem, *, Nat.reduceLT, Int.reduceEq, Int.reduceBEq, Int.reduceLE, Int.reduceLT, Nat.reduceAdd, Nat.reduceBEq, Nat.reduceEqDiff, reduceIte, Nat.reduceLeDiff, Nat.reduceMul, Nat.reduceSub, reduceCtorEq]
     all_goals exact Z2
    ·have hd : decide ((k : Int) < (ns.length : Int)) = false := by simpa using hlt
     have hkl : ns.take k = ns := List.take_of_length_le (by omega)
     rw [hkl] at h0
     clear hkl
     repeat' (first | refine goS ?_ | refine go2 (fun hh => ?_) (fun hh => ?_) | fail)
     all_goals (simp only [resV_def (X := dX cXB) Tryz.func180, Tryz.results180]; first | exact J5 | refine J6 ?_)
   ·cases h
  ·cases h
 ·cases h
theorem K180 {X : Ctx} (hX : X.intr 180 = some (pureFn sp180)) (w : List UInt8) (a : AV) (ns : List Int) (ha : slV intC a = some ns) (hn : ns.all smallI = true) (hw : w.length ≤ 1000) (h : Heap) : Cl X 180 [.str w, a] h (.ret (.str (lineT w ns)) h none) :=
 Cl.intr hX (by simp [pureFn, AV.pur, AV.purL, sl_pur ha, sp180, ha, hn, hw])
set_option maxHeartbeats 1000000 in
theorem F143 (hT : TabK Tryz.prog) : IntrFn Tryz.prog 143 (pureFn sp180) := by
 refine pure_fn (X := dX cXB) (cXB_sound hT) p180 ?_
 intro args v h
 unfold sp180 at h
 split at h
 ·rename_i w a
  split at h
  ·rename_i ns ha
   split at h
   ·rename_i hg
    have h := Option.some.inj h
    subst h
    have hlen := sl_len ha
    have hout := sl_out ha
    have hmax := sl_max ha
    simp only [Bool.and_eq_true, decide_eq_true_eq] at hg
    obtain ⟨hg, hwl⟩ := hg
    have hmx : ns.length ≤ 65536 := hmax
    have HG := Lib.hid hg
    have HA := Lib.hid ha
    clear hg ha
    refine ClR.walk (c := _) rfl Tryz.func143 rfl (by kernel_rfl) rfl isRet_fail ?_
    simp only [entryEnv, Nat.reduceAdd, emptyHp]
    repeat' (first | refine goS ?_ | refine go2 (fun hh => ?_) (fun hh => ?_) | fail)
    refine W.loopN ns.length (fun k F => ∃ e, F = Fr.mk 143 false e .nil ⟨0, .nil⟩ [] none ∧ e.get 5 = some (.str (lineT w (ns.take k))) ∧ e.get 1 = some a ∧ e.get 6 = some (.int .i64 ↑k) ∧ k ≤ ns.length) ?_ ?_
    ·refine ⟨_, rfl, ?_, ?_, ?_, ?_⟩ <;> simp [lineT, go_sem, *, Nat.reduceLT, Int.reduceEq, Int.reduceBEq, Int.reduceLE, Int.reduceLT, Nat.reduceAdd, Nat.reduceBEq, Nat.reduceEqDiff, reduceIte, Nat.reduceLeDiff, Nat.reduceMul, Nat.reduceSub, reduceCtorEq]
    rintro k F ⟨e, rfl, h0, h7, h9, hk⟩
    by_cases hlt : k < ns.length
    ·obtain ⟨n, hn⟩ := get_some hlt
     have hd : decide ((k : Int) < (ns.length : Int)) = true := by simpa using hlt
     have hw := wrap_succ hlt hmax
     have hix := fun H => line_idx HA.out hn H
     have k144 := fun h => K144 (X := dX cXB) rfl n (List.all_eq_true.1 HG.out n (List.mem_of_getElem? hn)) h
     have HNX := Lib.hid (line_next (w := w) hn)
     have hl1 := line_len w (ns.take k)
     rw [List.length_take] at hl1
     have hl2 := itoa_len n
     clear hn
     generalize lineT w (ns.take k) = lt at *
     repeat' (first | (apply WO1.sadd; exact Z1; exact Z1; exact rfl; (focus (simp only [List.length_append, List.length_cons, List.length_nil]; omega)); simp only [pM, pN]) | refine go1 ?_ | (apply U6; exact Z1; exact Z1; (focus (simp only [List.nil_append, List.append_nil]; first | exact k144 _)); simp only [pM, pN, rR, rP]) | refine go2 (fun hh => ?_) (fun hh => ?_) | fail)
     refine ⟨hlt, _, rfl, ?_, ?_, ?_, by omega⟩
     ·rw [HNX.out]; simp only [List.append_assoc, go_sem, *, Nat.reduceLT, Int.reduceEq, Int.reduceBEq, Int.reduceLE, Int.reduceLT, Nat.reduceAdd, Nat.reduceBEq, Nat.reduceEqDiff, reduceIte, Nat.reduceLeDiff, Nat.reduceMul, Nat.reduceSub, reduceCtorEq]
     all_goals exact Z2
    ·have hd : decide ((k : Int) < (ns.length : Int)) = false := by simpa using hlt
     have hkl : ns.take k = ns := List.take_of_length_le (by omega)
     rw [hkl] at h0
     clear hkl
     repeat' (first | refine goS ?_ | refine go2 (fun hh => ?_) (fun hh => ?_) | fail)
     all_goals (simp only [resV_def (X := dX cXB) Tryz.func143, Tryz.results143]; first | exact J5 | refine J6 ?_)
   ·cases h
  ·cases h
 ·cases h
theorem K143 {X : Ctx} (hX : X.intr 143 = some (pureFn sp180)) (w : List UInt8) (a : AV) (ns : List Int) (ha : slV intC a = some ns) (hn : ns.all smallI = true) (hw : w.length ≤ 1000) (h : Heap) : Cl X 143 [.str w, a] h (.ret (.str (lineT w ns)) h none) :=
 Cl.intr hX (by simp [pureFn, AV.pur, AV.purL, sl_pur ha, sp180, ha, hn, hw])
end Go.AM
namespace Go.AM
open Go
variable [Keep]
def isDig (c : UInt8) : Bool := decide (48 ≤ c.toNat) && decide (c.toNat ≤ 57)
def digsOf (w : List UInt8) : List UInt8 := match w with | c :: r => if c = 45 then r else c :: r | [] => []
def valD (l : List UInt8) : Nat := l.foldl (fun n c => 10 * n + (c.toNat - 48)) 0
def sgnV (w d : List UInt8) : Int := if d.length < w.length then -(valD d : Int) else (valD d : Int)
def formD (d : List UInt8) : Bool := d.all isDig && decide (d.length ≤ 2)
def numW (w : List UInt8) : Option Int :=
 if (formD (digsOf w) && (!(digsOf w).isEmpty && itoaF (sgnV w (digsOf w)) == w)) = true then some (sgnV w (digsOf w)) else none
def smallN (n : Int) : Bool := decide (-99 ≤ n) && decide (n ≤ 99)
theorem num_all : ((List.range 199).all fun k => numW (itoaF ((k : Int) - 99)) == some ((k : Int) - 99) && (itoaF ((k : Int) - 99)).all (fun c => c != 32 && c != 10) && Nat.ble (itoaF ((k : Int) - 99)).length 3) = true := by kernel_rfl
theorem txt_num {n : Int} (h : smallN n = true) : numW (itoaF n) = some n ∧ (∀ c ∈ itoaF n, c ≠ 32 ∧ c ≠ 10) ∧ (itoaF n).length ≤ 3 := by
 unfold smallN at h
 simp only [Bool.and_eq_true, decide_eq_true_eq] at h
 have := List.all_eq_true.1 num_all (n + 99).toNat (by rw [List.mem_range]; omega)
 have e : (((n + 99).toNat : Nat) : Int) - 99 = n := by omega
 rw [e] at this
 simp only [Bool.and_eq_true, beq_iff_eq, List.all_eq_true, bne_iff_ne, Nat.ble_eq] at this
 exact ⟨this.1.1, this.1.2, this.2⟩
theorem val_form {d : List UInt8} (h : formD d = true) : valD d ≤ 99 := by
 unfold formD at h
 simp only [Bool.and_eq_true, decide_eq_true_eq] at h
 obtain ⟨h1, h2⟩ := h
 match d, h1, h2 with
 | [], _, _ => decide
 | [a], h1, _ =>
  simp [isDig] at h1
  simp [valD]
  omega
 | [a, b], h1, _ =>
  simp [isDig] at h1
  simp [valD]
  omega
 | _ :: _ :: _ :: _, _, h2 => simp at h2
theorem num_is {w : List UInt8} {n : Int} (h : numW w = some n) : smallN n = true ∧ itoaF n = w := by
 unfold numW at h
 split at h
 ·rename_i hg
  cases h
  simp only [Bool.and_eq_true, beq_iff_eq] at hg
  have := val_form hg.1
  refine ⟨?_, hg.2.2⟩
  unfold smallN sgnV
  simp only [Bool.and_eq_true, decide_eq_true_eq]
  split <;> omega
 ·cases h
theorem spL_app {b : UInt8} : ∀ {p : List UInt8} (r : List UInt8), (∀ c ∈ p, c ≠ b) → spL b (p ++ b :: r) = p :: spL b r := by
 intro p
 induction p with
 | nil => intro r _; simp [spL]
 | cons c p ih =>
  intro r h
  have hc : ¬ c = b := h c (List.mem_cons_self ..)
  have := ih r (fun x hx => h x (List.mem_cons_of_mem _ hx))
  simp only [List.cons_append, spL, if_neg hc, this]
theorem spL_end {b : UInt8} : ∀ {p : List UInt8}, (∀ c ∈ p, c ≠ b) → spL b p = [p] := by
 intro p h
 refine spL_no ?_
 rw [List.count_eq_zero]
 exact fun hm => h b hm rfl
theorem spL_flat : ∀ {ls : List (List UInt8)}, (∀ l ∈ ls, ∀ c ∈ l, c ≠ 10) → spL 10 (ls.flatMap fun l => l ++ [10]) = ls ++ [[]] := by
 intro ls
 induction ls with
 | nil => intro _; rfl
 | cons l ls ih =>
  intro h
  have e : (l :: ls).flatMap (fun l => l ++ [10]) = l ++ 10 :: ls.flatMap fun l => l ++ [10] := by simp
  rw [e, spL_app _ (h l (List.mem_cons_self ..)), ih (fun x hx => h x (List.mem_cons_of_mem _ hx))]
  rfl
theorem spL_line : ∀ {ns : List Int} {p : List UInt8}, (∀ c ∈ p, c ≠ 32) → ns.all smallN = true → spL 32 (p ++ ns.flatMap fun n => 32 :: itoaF n) = p :: ns.map itoaF := by
 intro ns
 induction ns with
 | nil => intro p hp _; simpa using spL_end hp
 | cons n ns ih =>
  intro p hp h
  simp only [List.all_cons, Bool.and_eq_true] at h
  have e : p ++ (n :: ns).flatMap (fun n => 32 :: itoaF n) = p ++ 32 :: (itoaF n ++ ns.flatMap fun n => 32 :: itoaF n) := by simp
  rw [e, spL_app _ hp, ih (fun c hc => ((txt_num h.1).2.1 c hc).1) h.2]
  rfl
def mapO {α β : Type} (f : α → Option β) : List α → Option (List β)
 | [] => some []
 | a :: r => match f a with
  | some b => (match mapO f r with | some l => some (b :: l) | none => none)
  | none => none
theorem mapO_map {α β γ : Type} {f : α → Option β} {g : γ → α} {k : γ → β} : ∀ {l : List γ}, (∀ x ∈ l, f (g x) = some (k x)) → mapO f (l.map g) = some (l.map k) := by
 intro l
 induction l with
 | nil => intro _; rfl
 | cons x l ih =>
  intro h
  simp only [List.map_cons, mapO, h x (List.mem_cons_self ..), ih (fun y hy => h y (List.mem_cons_of_mem _ hy))]
theorem mapO_len {α β : Type} {f : α → Option β} : ∀ {l : List α} {o : List β}, mapO f l = some o → o.length = l.length := by
 intro l
 induction l with
 | nil => intro o h; cases h; rfl
 | cons a l ih =>
  intro o h
  simp only [mapO] at h
  split at h
  ·split at h
   ·rename_i q
    cases h
    simp [ih q]
   ·cases h
  ·cases h
theorem mapO_all {α β : Type} {f : α → Option β} {P : β → Prop} (hP : ∀ a b, f a = some b → P b) : ∀ {l : List α} {o : List β}, mapO f l = some o → ∀ b ∈ o, P b := by
 intro l
 induction l with
 | nil => intro o h; cases h; intro b hb; cases hb
 | cons a l ih =>
  intro o h
  simp only [mapO] at h
  split at h
  ·rename_i b0 e0
   split at h
   ·rename_i q
    cases h
    intro b hb
    rcases List.mem_cons.1 hb with rfl | hb
    ·exact hP _ _ e0
    ·exact ih q b hb
   ·cases h
  ·cases h
theorem mapO_app {α β : Type} {f : α → Option β} : ∀ {l r : List α}, mapO f (l ++ r) = match mapO f l with | some a => (match mapO f r with | some b => some (a ++ b) | none => none) | none => none := by
 intro l r
 induction l with
 | nil => simp only [List.nil_append, mapO]; split <;> simp_all
 | cons a l ih =>
  simp only [List.cons_append, mapO, ih]
  cases f a with
  | none => rfl
  | some b =>
   simp only
   cases mapO f l with
   | none => rfl
   | some x => cases mapO f r <;> rfl
theorem mapO_none {α β : Type} {f : α → Option β} {a : α} : ∀ {l : List α}, a ∈ l → f a = none → mapO f l = none := by
 intro l
 induction l with
 | nil => intro h; cases h
 | cons x l ih =>
  intro h e
  rcases List.mem_cons.1 h with rfl | h
  ·simp [mapO, e]
  ·simp only [mapO, ih h e]
   split <;> rfl
theorem mapO_next {α β : Type} {f : α → Option β} {l : List α} {k : Nat} {a : α} {acc : List β} {b : β} (h : l[k]? = some a) (hk : mapO f (l.take k) = some acc) (hb : f a = some b) : mapO f (l.take (k + 1)) = some (acc ++ [b]) := by
 rw [take_next h, mapO_app, hk]
 simp [mapO, hb]
def wMach : List UInt8 := [109, 97, 99, 104, 105, 110, 101]
def wStop : List UInt8 := [115, 116, 111, 112]
def wChuck : List UInt8 := [99, 104, 117, 99, 107]
def wWear : List UInt8 := [119, 101, 97, 114]
def wRead : List UInt8 := [114, 101, 97, 100, 105, 110, 103]
def numsW (s w : List UInt8) (many : Nat) : Option (List Int) :=
 if ((spL 32 s).length = many + 1 ∧ (spL 32 s).getD 0 [] = w) then mapO numW ((spL 32 s).drop 1) else none
theorem nums_line {w : List UInt8} {ns : List Int} (hw : ∀ c ∈ w, c ≠ 32) (h : ns.all smallN = true) : numsW (lineT w ns) w ns.length = some ns := by
 have e : spL 32 (lineT w ns) = w :: ns.map itoaF := spL_line hw h
 unfold numsW
 rw [e]
 rw [if_pos (by simp)]
 have := mapO_map (f := numW) (g := itoaF) (k := id) (l := ns) (fun n hn => (txt_num (List.all_eq_true.1 h n hn)).1)
 simpa using this
theorem nums_other {w w' : List UInt8} {ns : List Int} {many : Nat} (hw : ∀ c ∈ w, c ≠ 32) (h : ns.all smallN = true) (hne : w ≠ w') : numsW (lineT w ns) w' many = none := by
 have e : spL 32 (lineT w ns) = w :: ns.map itoaF := spL_line hw h
 unfold numsW
 rw [e]
 rw [if_neg (by simp [hne])]
theorem nums_is {s w : List UInt8} {many : Nat} {l : List Int} (h : numsW s w many = some l) : l.length = many ∧ l.all smallN = true := by
 unfold numsW at h
 split at h
 ·rename_i hg
  refine ⟨?_, ?_⟩
  ·rw [mapO_len h, List.length_drop]; omega
  ·rw [List.all_eq_true]
   exact mapO_all (fun a b e => (num_is e).1) h
 ·cases h
structure Mc where
 st : List Pt
 cx : Sp
 cy : Sp
 wx : Sp
 wy : Sp
 rs : List Rdg
def ck1 (i : Nat) : Nat → List UInt8 → Nat
 | _, [] => 0
 | k, b :: r => b.toNat * (k + 1) * (i + 1) + ck1 i (k + 1) r
def ck : Nat → List (List UInt8) → Nat
 | _, [] => 0
 | i, l :: r => ck1 i 0 l + ck (i + 1) r
def hdLine (m : Mc) : List UInt8 := lineT wMach [(m.st.length : Int), (m.rs.length : Int)]
def stopL (p : Pt) : List UInt8 := lineT wStop [p.x, p.y]
def chuckL (m : Mc) : List UInt8 := lineT wChuck [m.cx.lo, m.cx.hi, m.cy.lo, m.cy.hi]
def wearL (m : Mc) : List UInt8 := lineT wWear [m.wx.lo, m.wx.hi, m.wy.lo, m.wy.hi]
def readL (r : Rdg) : List UInt8 := lineT wRead [r.b, r.x, r.y, r.err]
def linesM (m : Mc) : List (List UInt8) := hdLine m :: (m.st.map stopL ++ (chuckL m :: wearL m :: m.rs.map readL))
def endL (c : Nat) : List UInt8 := [101, 110, 100, 32] ++ itoaF ((c / 100 : Nat) : Int) ++ itoaF ((c / 10 % 10 : Nat) : Int) ++ itoaF ((c % 10 : Nat) : Int)
def allL (m : Mc) : List (List UInt8) := linesM m ++ [endL (ck 0 (linesM m) % 127)]
def textM (m : Mc) : List UInt8 := (allL m).flatMap fun l => l ++ [10]
def smallM (m : Mc) : Bool := m.st.all (fun p => smallN p.x && smallN p.y) && (smallN m.cx.lo && smallN m.cx.hi && smallN m.cy.lo && smallN m.cy.hi) && (smallN m.wx.lo && smallN m.wx.hi && smallN m.wy.lo && smallN m.wy.hi) && m.rs.all fun r => smallN r.b && smallN r.x && smallN r.y && smallN r.err
def lensM (m : Mc) : Prop := m.st.length ≤ 99 ∧ m.rs.length ≤ 99
theorem line_no10 {w : List UInt8} {ns : List Int} (hw : ∀ c ∈ w, c ≠ 10) (h : ns.all smallN = true) : ∀ c ∈ lineT w ns, c ≠ 10 := by
 intro c hc
 unfold lineT at hc
 rcases List.mem_append.1 hc with hc | hc
 ·exact hw c hc
 ·obtain ⟨n, hn, hc⟩ := List.mem_flatMap.1 hc
  rcases List.mem_cons.1 hc with rfl | hc
  ·decide
  ·exact ((txt_num (List.all_eq_true.1 h n hn)).2.1 c hc).2
theorem line_len3 {w : List UInt8} : ∀ {ns : List Int}, ns.all smallN = true → (lineT w ns).length ≤ w.length + 4 * ns.length := by
 intro ns
 unfold lineT
 rw [List.length_append]
 induction ns with
 | nil => intro _; simp
 | cons n ns ih =>
  intro h
  simp only [List.all_cons, Bool.and_eq_true] at h
  have := (txt_num h.1).2.2
  have := ih h.2
  simp only [List.flatMap_cons, List.length_append, List.length_cons]
  omega
theorem end_all : ((List.range 127).all fun c => (endL c).all (fun b => b != 10) && Nat.ble (endL c).length 7) = true := by kernel_rfl
theorem end_ok {c : Nat} (h : c < 127) : (∀ b ∈ endL c, b ≠ 10) ∧ (endL c).length ≤ 7 := by
 have := List.all_eq_true.1 end_all c (List.mem_range.2 h)
 simpa using this
def valE (l : List UInt8) : Nat := 100 * ((l.getD 4 0).toNat - 48) + 10 * ((l.getD 5 0).toNat - 48) + ((l.getD 6 0).toNat - 48)
theorem end_val : ((List.range 127).all fun c => valE (endL c) == c) = true := by kernel_rfl
theorem end_inj {a b : Nat} (ha : a < 127) (hb : b < 127) (h : endL a = endL b) : a = b := by
 have h1 := List.all_eq_true.1 end_val a (List.mem_range.2 ha)
 have h2 := List.all_eq_true.1 end_val b (List.mem_range.2 hb)
 simp only [beq_iff_eq] at h1 h2
 rw [← h1, ← h2, h]
section
variable {m : Mc} (hm : smallM m = true)
include hm
theorem sm_st {p : Pt} (h : p ∈ m.st) : [p.x, p.y].all smallN = true := by
 unfold smallM at hm
 simp only [Bool.and_eq_true, List.all_eq_true] at hm
 have := hm.1.1.1 p h
 simp [this.1, this.2]
theorem sm_rs {r : Rdg} (h : r ∈ m.rs) : [r.b, r.x, r.y, r.err].all smallN = true := by
 unfold smallM at hm
 simp only [Bool.and_eq_true, List.all_eq_true] at hm
 have := hm.2 r h
 simp [this.1, this.2]
theorem sm_c : [m.cx.lo, m.cx.hi, m.cy.lo, m.cy.hi].all smallN = true := by
 unfold smallM at hm
 simp only [Bool.and_eq_true, List.all_eq_true] at hm
 have := hm.1.1.2
 simp [this]
theorem sm_w : [m.wx.lo, m.wx.hi, m.wy.lo, m.wy.hi].all smallN = true := by
 unfold smallM at hm
 simp only [Bool.and_eq_true, List.all_eq_true] at hm
 have := hm.1.2
 simp [this]
end
theorem w_mach : (∀ c ∈ wMach, c ≠ 32) ∧ ∀ c ∈ wMach, c ≠ 10 := by decide
theorem w_stop : (∀ c ∈ wStop, c ≠ 32) ∧ ∀ c ∈ wStop, c ≠ 10 := by decide
theorem w_chuck : (∀ c ∈ wChuck, c ≠ 32) ∧ ∀ c ∈ wChuck, c ≠ 10 := by decide
theorem w_wear : (∀ c ∈ wWear, c ≠ 32) ∧ ∀ c ∈ wWear, c ≠ 10 := by decide
theorem w_read : (∀ c ∈ wRead, c ≠ 32) ∧ ∀ c ∈ wRead, c ≠ 10 := by decide
theorem len_small {n : Nat} (h : n ≤ 99) : smallN (n : Int) = true := by
 unfold smallN
 simp only [Bool.and_eq_true, decide_eq_true_eq]
 omega
theorem dig_no10 : ∀ (f n : Nat), ∀ c ∈ digF f n, c ≠ 10 := by
 intro f
 induction f with
 | zero => intro n c hc; cases hc
 | succ f ih =>
  intro n c hc
  unfold digF at hc
  have hd : ∀ k, k < 10 → UInt8.ofNat (48 + k) ≠ 10 := by decide
  split at hc
  ·rename_i hb
   rw [Nat.blt_eq] at hb
   rcases List.mem_singleton.1 hc with rfl
   exact hd _ hb
  ·rcases List.mem_append.1 hc with hc | hc
   ·exact ih _ c hc
   ·rcases List.mem_singleton.1 hc with rfl
    exact hd _ (Nat.mod_lt _ (by decide))
theorem head_no10 (m : Mc) : ∀ c ∈ hdLine m, c ≠ 10 := by
 intro c hc
 unfold hdLine lineT at hc
 simp only [List.flatMap_cons, List.flatMap_nil, List.append_nil, List.mem_append, List.mem_cons] at hc
 rcases hc with hc | (rfl | hc) | (rfl | hc)
 ·exact w_mach.2 c hc
 ·decide
 ·exact dig_no10 _ _ c hc
 ·decide
 ·exact dig_no10 _ _ c hc
theorem lines_no10 {m : Mc} (hm : smallM m = true) : ∀ l ∈ linesM m, ∀ c ∈ l, c ≠ 10 := by
 intro l hl
 unfold linesM at hl
 simp only [List.mem_cons, List.mem_append, List.mem_map] at hl
 rcases hl with rfl | ⟨p, hp, rfl⟩ | rfl | rfl | ⟨r, hr, rfl⟩
 ·exact head_no10 m
 ·exact line_no10 w_stop.2 (sm_st hm hp)
 ·exact line_no10 w_chuck.2 (sm_c hm)
 ·exact line_no10 w_wear.2 (sm_w hm)
 ·exact line_no10 w_read.2 (sm_rs hm hr)
theorem all_no10 {m : Mc} (hm : smallM m = true) : ∀ l ∈ allL m, ∀ c ∈ l, c ≠ 10 := by
 intro l hl
 unfold allL at hl
 rcases List.mem_append.1 hl with hl | hl
 ·exact lines_no10 hm l hl
 ·rcases List.mem_singleton.1 hl with rfl
  exact (end_ok (Nat.mod_lt _ (by decide))).1
theorem text_split {m : Mc} (hm : smallM m = true) : spL 10 (textM m) = allL m ++ [[]] := spL_flat (all_no10 hm)
def ptOf (l : List Int) : Pt := ⟨l.getD 0 0, l.getD 1 0⟩
def rdOf (l : List Int) : Rdg := ⟨l.getD 0 0, l.getD 1 0, l.getD 2 0, l.getD 3 0⟩
def mkM (ps : List (List Int)) (c w : List Int) (rs : List (List Int)) : Mc := ⟨List.map ptOf ps, ⟨List.getD c 0 0, List.getD c 1 0⟩, ⟨List.getD c 2 0, List.getD c 3 0⟩, ⟨List.getD w 0 0, List.getD w 1 0⟩, ⟨List.getD w 2 0, List.getD w 3 0⟩, List.map rdOf rs⟩
def bodyM (ls : List (List UInt8)) (a b : Nat) : Option Mc :=
 match mapO (fun l => numsW l wStop 2) ((ls.drop 1).take a) with
 | none => none
 | some ps => match numsW (ls.getD (1 + a) []) wChuck 4 with
  | none => none
  | some c => match numsW (ls.getD (2 + a) []) wWear 4 with
   | none => none
   | some w => match mapO (fun l => numsW l wRead 4) ((ls.drop (3 + a)).take b) with
    | none => none
    | some rs => some (mkM ps c w rs)
def hdOk (ls : List (List UInt8)) (hd : List Int) : Bool := decide (0 ≤ hd.getD 0 0) && decide (0 ≤ hd.getD 1 0) && decide ((ls.length : Int) = hd.getD 0 0 + hd.getD 1 0 + 5)
open Classical in
noncomputable def readM (s : List UInt8) : Option Mc :=
 match numsW ((spL 10 s).getD 0 []) wMach 2 with
 | none => none
 | some hd => if hdOk (spL 10 s) hd = true then (match bodyM (spL 10 s) (hd.getD 0 0).toNat (hd.getD 1 0).toNat with
   | none => none
   | some m => if textM m = s then some m else none) else none
theorem readM_is {s : List UInt8} {m : Mc} (h : readM s = some m) : textM m = s ∧ smallM m = true ∧ lensM m := by
 unfold readM at h
 split at h
 ·cases h
 ·rename_i hd hhd
  split at h
  ·split at h
   ·cases h
   ·rename_i m' hb
    split at h
    ·rename_i ht
     cases h
     refine ⟨ht, ?_⟩
     have hds := (nums_is hhd).2
     have hdl := (nums_is hhd).1
     unfold bodyM at hb
     split at hb
     ·cases hb
     ·rename_i ps hps
      split at hb
      ·cases hb
      ·rename_i c hc
       split at hb
       ·cases hb
       ·rename_i w hw
        split at hb
        ·cases hb
        ·rename_i rs hrs
         cases hb
         have p1 := mapO_all (P := fun l : List Int => l.length = 2 ∧ l.all smallN = true) (fun a b e => nums_is e) hps
         have p2 := mapO_all (P := fun l : List Int => l.length = 4 ∧ l.all smallN = true) (fun a b e => nums_is e) hrs
         have l1 := mapO_len hps
         have l2 := mapO_len hrs
         obtain ⟨cl, cs⟩ := nums_is hc
         obtain ⟨wl, wss⟩ := nums_is hw
         match hd, hdl with
         | [a, b], _ =>
          simp only [List.all_cons, List.all_nil, Bool.and_true, Bool.and_eq_true] at hds
          obtain ⟨ha, hb⟩ := hds
          unfold smallN at ha hb
          simp only [Bool.and_eq_true, decide_eq_true_eq] at ha hb
          simp only [List.length_take, List.length_drop, List.getD_cons_zero, List.getD_cons_succ] at l1 l2
          refine ⟨?_, ?_, ?_⟩
          ·match c, cl, cs, w, wl, wss with
           | [c0, c1, c2, c3], _, cs, [w0, w1, w2, w3], _, wss =>
            simp only [List.all_cons, List.all_nil, Bool.and_true, Bool.and_eq_true] at cs wss
            unfold smallM mkM
            simp only [Bool.and_eq_true, List.all_eq_true, List.getD_cons_zero, List.getD_cons_succ]
            refine ⟨⟨⟨?_, ⟨⟨cs.1, cs.2.1⟩, cs.2.2.1⟩, cs.2.2.2⟩, ⟨⟨wss.1, wss.2.1⟩, wss.2.2.1⟩, wss.2.2.2⟩, ?_⟩
            ·intro p hp
             obtain ⟨l, hl, rfl⟩ := List.mem_map.1 hp
             obtain ⟨k1, k2⟩ := p1 l hl
             match l, k1, k2 with
             | [x, y], _, k2 => simpa [ptOf] using k2
            ·intro p hp
             obtain ⟨l, hl, rfl⟩ := List.mem_map.1 hp
             obtain ⟨k1, k2⟩ := p2 l hl
             match l, k1, k2 with
             | [x, y, z, u], _, k2 =>
              simp only [List.all_cons, List.all_nil, Bool.and_true, Bool.and_eq_true] at k2
              exact ⟨⟨⟨k2.1, k2.2.1⟩, k2.2.2.1⟩, k2.2.2.2⟩
          ·simp only [mkM, List.length_map, l1]; omega
          ·simp only [mkM, List.length_map, l2]; omega
    ·cases h
  ·cases h
theorem readM_text {m : Mc} (hm : smallM m = true) (hl : lensM m) : readM (textM m) = some m := by
 unfold readM
 rw [text_split hm]
 have e0 : (allL m ++ [[]]).getD 0 [] = hdLine m := rfl
 have hh : numsW (hdLine m) wMach 2 = some [(m.st.length : Int), (m.rs.length : Int)] := nums_line (ns := [(m.st.length : Int), (m.rs.length : Int)]) w_mach.1 (by simp [len_small hl.1, len_small hl.2])
 rw [e0, hh]
 have hlen : (allL m ++ [[]]).length = m.st.length + m.rs.length + 5 := by
  simp only [allL, linesM, List.length_append, List.length_cons, List.length_map, List.length_nil]
  omega
 have hok : hdOk (allL m ++ [[]]) [(m.st.length : Int), (m.rs.length : Int)] = true := by
  unfold hdOk
  rw [hlen]
  simp
 simp only [hok, if_true, List.getD_cons_zero, List.getD_cons_succ, Int.toNat_natCast]
 have eall : allL m ++ [[]] = hdLine m :: (m.st.map stopL ++ (chuckL m :: wearL m :: (m.rs.map readL ++ [endL (ck 0 (linesM m) % 127), []]))) := by
  simp [allL, linesM]
 have hb : bodyM (allL m ++ [[]]) m.st.length m.rs.length = some m := by
  rw [eall]
  generalize endL (ck 0 (linesM m) % 127) = e
  have hS : (m.st.map stopL).length = m.st.length := by simp
  have hR : (m.rs.map readL).length = m.rs.length := by simp
  have t1 : ((hdLine m :: (m.st.map stopL ++ (chuckL m :: wearL m :: (m.rs.map readL ++ [e, []])))).drop 1).take m.st.length = m.st.map stopL := by
   simp only [List.drop_succ_cons, List.drop_zero]
   rw [List.take_append_of_le_length (by omega), List.take_of_length_le (by omega)]
  have t2 : (hdLine m :: (m.st.map stopL ++ (chuckL m :: wearL m :: (m.rs.map readL ++ [e, []])))).getD (1 + m.st.length) [] = chuckL m := by
   rw [Nat.add_comm, List.getD_cons_succ, List.getD_eq_getElem?_getD, List.getElem?_append_right (by omega), hS, Nat.sub_self]
   rfl
  have t3 : (hdLine m :: (m.st.map stopL ++ (chuckL m :: wearL m :: (m.rs.map readL ++ [e, []])))).getD (2 + m.st.length) [] = wearL m := by
   rw [show 2 + m.st.length = (1 + m.st.length) + 1 by omega, List.getD_cons_succ, List.getD_eq_getElem?_getD, List.getElem?_append_right (by omega), hS, show 1 + m.st.length - m.st.length = 1 by omega]
   rfl
  have t4 : ((hdLine m :: (m.st.map stopL ++ (chuckL m :: wearL m :: (m.rs.map readL ++ [e, []])))).drop (3 + m.st.length)).take m.rs.length = m.rs.map readL := by
   rw [show 3 + m.st.length = (2 + m.st.length) + 1 by omega, List.drop_succ_cons, List.drop_append, List.drop_of_length_le (by omega), hS, show 2 + m.st.length - m.st.length = 2 by omega]
   simp only [List.nil_append, List.drop_succ_cons, List.drop_zero]
   rw [List.take_append_of_le_length (by omega), List.take_of_length_le (by omega)]
  unfold bodyM
  rw [t1, t2, t3, t4]
  have q1 : mapO (fun l => numsW l wStop 2) (m.st.map stopL) = some (m.st.map fun p => [p.x, p.y]) := mapO_map fun p hp => nums_line (ns := [p.x, p.y]) w_stop.1 (sm_st hm hp)
  have q2 : mapO (fun l => numsW l wRead 4) (m.rs.map readL) = some (m.rs.map fun p => [p.b, p.x, p.y, p.err]) := mapO_map fun p hp => nums_line (ns := [p.b, p.x, p.y, p.err]) w_read.1 (sm_rs hm hp)
  have q3 : numsW (chuckL m) wChuck 4 = some [m.cx.lo, m.cx.hi, m.cy.lo, m.cy.hi] := nums_line (ns := [m.cx.lo, m.cx.hi, m.cy.lo, m.cy.hi]) w_chuck.1 (sm_c hm)
  have q4 : numsW (wearL m) wWear 4 = some [m.wx.lo, m.wx.hi, m.wy.lo, m.wy.hi] := nums_line (ns := [m.wx.lo, m.wx.hi, m.wy.lo, m.wy.hi]) w_wear.1 (sm_w hm)
  rw [q1, q2, q3, q4]
  simp only [mkM, List.map_map]
  have r1 : List.map (ptOf ∘ fun p : Pt => [p.x, p.y]) m.st = m.st := (List.map_congr_left (fun p _ => rfl)).trans (List.map_id _)
  have r2 : List.map (rdOf ∘ fun p : Rdg => [p.b, p.x, p.y, p.err]) m.rs = m.rs := (List.map_congr_left (fun p _ => rfl)).trans (List.map_id _)
  rw [r1, r2]
  rfl
 rw [hb]
 simp
def m0 : Mc := ⟨[], ⟨0, 0⟩, ⟨0, 0⟩, ⟨0, 0⟩, ⟨0, 0⟩, []⟩
def stpR (m : Mc) (l : List UInt8) : Option Mc :=
 match numsW l wStop 2 with
 | some n => some ⟨m.st ++ [ptOf n], m.cx, m.cy, m.wx, m.wy, m.rs⟩
 | none => match numsW l wChuck 4 with
  | some n => some ⟨m.st, ⟨n.getD 0 0, n.getD 1 0⟩, ⟨n.getD 2 0, n.getD 3 0⟩, m.wx, m.wy, m.rs⟩
  | none => match numsW l wWear 4 with
   | some n => some ⟨m.st, m.cx, m.cy, ⟨n.getD 0 0, n.getD 1 0⟩, ⟨n.getD 2 0, n.getD 3 0⟩, m.rs⟩
   | none => match numsW l wRead 4 with
    | some n => some ⟨m.st, m.cx, m.cy, m.wx, m.wy, m.rs ++ [rdOf n]⟩
    | none => none
def fldR : Mc → List (List UInt8) → Option Mc
 | m, [] => some m
 | m, l :: r => match stpR m l with | some m' => fldR m' r | none => none
open Classical in
noncomputable def refRead (s : List UInt8) : Mc × Bool :=
 match fldR m0 (((spL 10 s).drop 1).take ((spL 10 s).length - 3)) with
 | none => (m0, false)
 | some m => (m, decide (textM m = s))
theorem fldR_app : ∀ {l r : List (List UInt8)} {m : Mc}, fldR m (l ++ r) = match fldR m l with | some m' => fldR m' r | none => none := by
 intro l r
 induction l with
 | nil => intro m; rfl
 | cons a l ih =>
  intro m
  simp only [List.cons_append, fldR]
  cases stpR m a with
  | none => rfl
  | some m' => exact ih
theorem step_small {m m' : Mc} {l : List UInt8} (hm : smallM m = true) (h : stpR m l = some m') : smallM m' = true := by
 unfold smallM at hm
 simp only [Bool.and_eq_true, List.all_eq_true] at hm
 unfold stpR at h
 split at h
 ·rename_i n hn
  cases h
  obtain ⟨k1, k2⟩ := nums_is hn
  match n, k1, k2 with
  | [x, y], _, k2 =>
   simp only [List.all_cons, List.all_nil, Bool.and_true, Bool.and_eq_true] at k2
   unfold smallM
   simp only [Bool.and_eq_true, List.all_eq_true]
   refine ⟨⟨⟨?_, hm.1.1.2⟩, hm.1.2⟩, hm.2⟩
   intro p hp
   rcases List.mem_append.1 hp with hp | hp
   ·exact hm.1.1.1 p hp
   ·rcases List.mem_singleton.1 hp with rfl
    exact k2
 ·split at h
  ·rename_i n hn
   cases h
   obtain ⟨k1, k2⟩ := nums_is hn
   match n, k1, k2 with
   | [x, y, z, u], _, k2 =>
    simp only [List.all_cons, List.all_nil, Bool.and_true, Bool.and_eq_true] at k2
    unfold smallM
    simp only [Bool.and_eq_true, List.all_eq_true]
    exact ⟨⟨⟨hm.1.1.1, ⟨⟨k2.1, k2.2.1⟩, k2.2.2.1⟩, k2.2.2.2⟩, hm.1.2⟩, hm.2⟩
  ·split at h
   ·rename_i n hn
    cases h
    obtain ⟨k1, k2⟩ := nums_is hn
    match n, k1, k2 with
    | [x, y, z, u], _, k2 =>
     simp only [List.all_cons, List.all_nil, Bool.and_true, Bool.and_eq_true] at k2
     unfold smallM
     simp only [Bool.and_eq_true, List.all_eq_true]
     exact ⟨⟨⟨hm.1.1.1, hm.1.1.2⟩, ⟨⟨k2.1, k2.2.1⟩, k2.2.2.1⟩, k2.2.2.2⟩, hm.2⟩
   ·split at h
    ·rename_i n hn
     cases h
     obtain ⟨k1, k2⟩ := nums_is hn
     match n, k1, k2 with
     | [x, y, z, u], _, k2 =>
      simp only [List.all_cons, List.all_nil, Bool.and_true, Bool.and_eq_true] at k2
      unfold smallM
      simp only [Bool.and_eq_true, List.all_eq_true]
      refine ⟨⟨⟨hm.1.1.1, hm.1.1.2⟩, hm.1.2⟩, ?_⟩
      intro p hp
      rcases List.mem_append.1 hp with hp | hp
      ·exact hm.2 p hp
      ·rcases List.mem_singleton.1 hp with rfl
       exact ⟨⟨⟨k2.1, k2.2.1⟩, k2.2.2.1⟩, k2.2.2.2⟩
    ·cases h
theorem fold_small : ∀ {l : List (List UInt8)} {m m' : Mc}, smallM m = true → fldR m l = some m' → smallM m' = true := by
 intro l
 induction l with
 | nil => intro m m' h e; cases e; exact h
 | cons a l ih =>
  intro m m' h e
  simp only [fldR] at e
  split at e
  ·rename_i q
   exact ih (step_small h q) e
  ·cases e
theorem m0_small : smallM m0 = true := rfl
theorem ref_is {s : List UInt8} {m : Mc} (h : refRead s = (m, true)) : textM m = s ∧ smallM m = true := by
 unfold refRead at h
 split at h
 ·cases h
 ·rename_i m' hf
  have e1 := congrArg Prod.fst h
  have e2 := congrArg Prod.snd h
  simp only [decide_eq_true_eq] at e1 e2
  subst e1
  exact ⟨e2, fold_small m0_small hf⟩
theorem fold_stops {ps : List Pt} (h : ∀ p ∈ ps, [p.x, p.y].all smallN = true) : ∀ {m : Mc}, fldR m (ps.map stopL) = some ⟨m.st ++ ps, m.cx, m.cy, m.wx, m.wy, m.rs⟩ := by
 induction ps with
 | nil => intro m; simp [fldR]
 | cons p ps ih =>
  intro m
  have e : numsW (stopL p) wStop 2 = some [p.x, p.y] := nums_line (ns := [p.x, p.y]) w_stop.1 (h p (List.mem_cons_self ..))
  simp only [List.map_cons, fldR, stpR, e]
  rw [ih (fun q hq => h q (List.mem_cons_of_mem _ hq))]
  simp [ptOf]
theorem fold_reads {ps : List Rdg} (h : ∀ p ∈ ps, [p.b, p.x, p.y, p.err].all smallN = true) : ∀ {m : Mc}, fldR m (ps.map readL) = some ⟨m.st, m.cx, m.cy, m.wx, m.wy, m.rs ++ ps⟩ := by
 induction ps with
 | nil => intro m; simp [fldR]
 | cons p ps ih =>
  intro m
  have hp := h p (List.mem_cons_self ..)
  have e : numsW (readL p) wRead 4 = some [p.b, p.x, p.y, p.err] := nums_line (ns := [p.b, p.x, p.y, p.err]) w_read.1 hp
  have e1 : numsW (readL p) wStop 2 = none := nums_other w_read.1 hp (by decide)
  have e2 : numsW (readL p) wChuck 4 = none := nums_other w_read.1 hp (by decide)
  have e3 : numsW (readL p) wWear 4 = none := nums_other w_read.1 hp (by decide)
  simp only [List.map_cons, fldR, stpR, e, e1, e2, e3]
  rw [ih (fun q hq => h q (List.mem_cons_of_mem _ hq))]
  simp [rdOf]
theorem ref_text {m : Mc} (hm : smallM m = true) : refRead (textM m) = (m, true) := by
 unfold refRead
 rw [text_split hm]
 have eall : allL m ++ [[]] = hdLine m :: (m.st.map stopL ++ (chuckL m :: wearL m :: (m.rs.map readL ++ [endL (ck 0 (linesM m) % 127), []]))) := by
  simp [allL, linesM]
 have hl : ((allL m ++ [[]]).drop 1).take ((allL m ++ [[]]).length - 3) = m.st.map stopL ++ (chuckL m :: wearL m :: m.rs.map readL) := by
  rw [eall]
  generalize endL (ck 0 (linesM m) % 127) = e
  simp only [List.drop_succ_cons, List.drop_zero]
  rw [show m.st.map stopL ++ (chuckL m :: wearL m :: (m.rs.map readL ++ [e, []])) = (m.st.map stopL ++ (chuckL m :: wearL m :: m.rs.map readL)) ++ [e, []] by simp]
  rw [List.take_append_of_le_length (by simp only [List.length_cons, List.length_append, List.length_map, List.length_nil]; omega), List.take_of_length_le (by simp only [List.length_cons, List.length_append, List.length_map, List.length_nil]; omega)]
 have hf : fldR m0 (m.st.map stopL ++ (chuckL m :: wearL m :: m.rs.map readL)) = some m := by
  rw [fldR_app, fold_stops (fun p hp => sm_st hm hp)]
  have a1 : numsW (chuckL m) wStop 2 = none := nums_other w_chuck.1 (sm_c hm) (by decide)
  have a2 : numsW (chuckL m) wChuck 4 = some [m.cx.lo, m.cx.hi, m.cy.lo, m.cy.hi] := nums_line (ns := [m.cx.lo, m.cx.hi, m.cy.lo, m.cy.hi]) w_chuck.1 (sm_c hm)
  have b1 : numsW (wearL m) wStop 2 = none := nums_other w_wear.1 (sm_w hm) (by decide)
  have b2 : numsW (wearL m) wChuck 4 = none := nums_other w_wear.1 (sm_w hm) (by decide)
  have b3 : numsW (wearL m) wWear 4 = some [m.wx.lo, m.wx.hi, m.wy.lo, m.wy.hi] := nums_line (ns := [m.wx.lo, m.wx.hi, m.wy.lo, m.wy.hi]) w_wear.1 (sm_w hm)
  simp only [fldR, stpR, a1, a2, b1, b2, b3]
  rw [fold_reads (fun p hp => sm_rs hm hp)]
  simp [m0]
 rw [hl, hf]
 simp
theorem text_lens {m : Mc} (h : (textM m).length ≤ 400) : lensM m := by
 have e : (textM m).length = ((allL m).map fun l => l.length + 1).sum := by
  unfold textM
  rw [List.length_flatMap]
  congr 1
  exact List.map_congr_left (fun l _ => by simp)
 have hge : ∀ (L : List (List UInt8)), (∀ l ∈ L, 4 ≤ l.length) → 5 * L.length ≤ (L.map fun l => l.length + 1).sum := by
  intro L
  induction L with
  | nil => intro _; simp
  | cons a L ih =>
   intro h
   have := ih (fun l hl => h l (List.mem_cons_of_mem _ hl))
   have := h a (List.mem_cons_self ..)
   simp only [List.map_cons, List.sum_cons, List.length_cons]
   omega
 have hL : (linesM m).length = m.st.length + m.rs.length + 3 := by
  simp only [linesM, List.length_append, List.length_cons, List.length_map]
  omega
 have h1 := hge (linesM m) (fun l hl => by
  unfold linesM at hl
  simp only [List.mem_cons, List.mem_append, List.mem_map] at hl
  have hw : ∀ w : List UInt8, ∀ ns : List Int, 4 ≤ w.length → 4 ≤ (lineT w ns).length := fun w ns k => by unfold lineT; rw [List.length_append]; omega
  rcases hl with rfl | ⟨p, hp, rfl⟩ | rfl | rfl | ⟨r, hr, rfl⟩ <;> exact hw _ _ (by decide))
 have e2 : ((allL m).map fun l => l.length + 1).sum = ((linesM m).map fun l => l.length + 1).sum + ((endL (ck 0 (linesM m) % 127)).length + 1) := by
  unfold allL
  simp
 unfold lensM
 omega
theorem read_none {s : List UInt8} (h : (refRead s).2 = false) : readM s = none := by
 cases q : readM s with
 | none => rfl
 | some m =>
  obtain ⟨h1, h2, h3⟩ := readM_is q
  rw [← h1, ref_text h2] at h
  cases h
theorem read_some {s : List UInt8} (hs : s.length ≤ 400) (h : (refRead s).2 = true) : readM s = some (refRead s).1 := by
 have := ref_is (s := s) (m := (refRead s).1) (by rw [← h])
 obtain ⟨h1, h2⟩ := this
 have h3 : lensM (refRead s).1 := text_lens (by rw [h1]; exact hs)
 have := readM_text h2 h3
 rw [h1] at this
 exact this
end Go.AM
