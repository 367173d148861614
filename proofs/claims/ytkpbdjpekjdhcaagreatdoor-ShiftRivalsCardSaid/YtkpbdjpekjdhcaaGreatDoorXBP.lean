/-
  A part of the proof: contracts of functions.
-/
import Derived.Test.YtkpbdjpekjdhcaaGreatDoorXBO
import Derived.Test.YtkpbdjpekjdhcaaGreatDoorXAL
import Derived.Test.YtkpbdjpekjdhcaaGreatDoorXBL
import Derived.Test.YtkpbdjpekjdhcaaGreatDoorXBM
import Derived.Test.YtkpbdjpekjdhcaaGreatDoorXAY
import Derived.Test.YtkpbdjpekjdhcaaGreatDoorXBK
import Derived.Test.YtkpbdjpekjdhcaaGreatDoorXAT
set_option linter.unusedSectionVars false
set_option linter.unusedVariables false
set_option linter.unusedSimpArgs false
set_option maxRecDepth 100000
namespace Go.AM
open Go Go.Proofs
variable [Keep]
attribute [local irreducible] W WO WO1 WD WQ WT thenQ blockQ endR isRet retK Cl ClR
open Go.TX (Rm Fa Ha Hs mapO mapO_len)
attribute [local irreducible] roundQ RdR houseB airS failsH hasB allP pathB mostP ordP
def ordV (m : Hs) (d : List Int) (w : Bool) : AV := if (houseB m && dutyP m d) = true then .tuple (ordE m (ordP m d w) ++ [.int .i64 0]) else .tuple [.nilslice, .int .i64 0, .int .i64 2]
theorem ints_frz {h' : Heap} {v : AV} {p : List Int} (b : Blt h' v 1 (intsE p)) : Frz h' v (slN (intsE p)) := by
 refine b.frz (fun e he => ?_) (fun e he x hx => ?_)
 ·obtain ⟨k, _, rfl⟩ := List.mem_map.1 he
  rfl
 ·obtain ⟨k, _, rfl⟩ := List.mem_map.1 he
  rcases List.mem_singleton.1 hx with rfl
  exact ⟨rfl, rfl⟩
def sp45 : List AV -> Option AV
 | [x, da] => match hsV x, slV intC da with
  | some m, some d => some (ordV m d true)
  | _, _ => none
 | _ => none
def sp46 : List AV -> Option AV
 | [x, da] => match hsV x, slV intC da with
  | some m, some d => some (ordV m d false)
  | _, _ => none
 | _ => none
def ordM (m : Hs) (d : List Int) (w : Bool) : Int := match ordP m d w with
 | none => 0
 | some p => mostP m p
def anyV (m : Hs) (limit : Int) (d : List Int) : AV := if (houseB m && dutyP m d && inB limit 0 2000) = true then .tuple [.bool (decide (ordM m d true <= limit)), .int .i64 0] else .tuple [.bool false, .int .i64 2]
def sp47 : List AV -> Option AV
 | [x, .int .i64 limit, da] => match hsV x, slV intC da with
  | some m, some d => some (anyV m limit d)
  | _, _ => none
 | _ => none
end Go.AM
namespace Go.AM
open Go Go.Proofs
variable [Keep]
attribute [local irreducible] W WO WO1 WD WQ WT thenQ blockQ endR isRet retK Cl ClR
open Go.TX (Rm Fa Ha Hs)
theorem sets_ok {m : Hs} (ho : HOk m) : SetsOk m.op := fun s hs => by
 have h1 := ho.set s hs
 have h2 := ho.rooms
 have h3 : (2 : Int) ^ m.rooms.length <= 8 := by
  have : m.rooms.length = 1 \/ m.rooms.length = 2 \/ m.rooms.length = 3 := by omega
  rcases this with e | e | e <;> rw [e] <;> decide
 omega
def bstO (m : Hs) (nn : Nat) : Option (List (List Int)) := bestRo (allP m.rooms.length nn) (kpB m) bzC m.hands.length m.op
attribute [local irreducible] houseB pathB airS failsH hasB allP mny takeP fitsP srR srF busyL lsE
section
variable {c : Itr}
end
end Go.AM
namespace Go.AM
open Go Go.Proofs
variable [Keep]
attribute [local irreducible] W WO WO1 WD WQ WT thenQ blockQ endR isRet retK Cl ClR
open Go.TX (Rm Fa Ha Hs mapO mapO_len)
attribute [local irreducible] roundQ RdR
theorem OwnI.congr {n ow : Nat} {O O' : Nat -> List (List Int)} {h : Heap} (I : OwnI n ow O h) (e : ∀ i, i < n -> O i = O' i) (hp : ∀ i p, p ∈ O' i -> p ≠ []) : OwnI n ow O' h := by
 obtain ⟨els, e1, e2, e3, e4⟩ := I.ex
 refine ⟨⟨els, e1, e2, fun i hi => ?_, e4⟩, I.lt, hp⟩
 rw [<- e i hi]
 exact e3 i hi
theorem own_new {n ow : Nat} {h : Heap} (g : h.get ow = some (.rw 1 (List.replicate n AV.nilslice))) (l : ow < h.next) : OwnI n ow (fun _ => []) h /\ ∀ id, ownO ow h id -> id = ow := by
 have hat : ∀ {i : Nat} {b : AV}, (List.replicate n AV.nilslice)[i]? = some b -> b = AV.nilslice := fun {i b} hb => (List.mem_replicate.1 (List.mem_of_getElem? hb)).2
 refine ⟨⟨⟨_, g, List.length_replicate .., fun i hi => ⟨.nilslice, ?_, ⟨[], .inl ⟨rfl, rfl⟩, rfl, fun k p hk => by simp at hk⟩, fun id x y x' y' e => by cases e⟩, fun i j b b' _ hb _ => ?_⟩, l, fun i p hp => by cases hp⟩, fun id ho => ?_⟩
 ·rw [List.getElem?_replicate, if_pos hi]
 ·rw [hat hb]
  intro id x y x' y' e
  cases e
 ·rcases ho with e | ⟨els, i, off, k, f1, f2⟩
  ·exact e
  ·rw [g] at f1
   cases f1
   cases hat f2
theorem OwnI.own {n ow : Nat} {O : Nat -> List (List Int)} {h : Heap} (I : OwnI n ow O h) (hn : n ≠ 0) : OwnV h (.row ow 0 n) n O := by
 obtain ⟨els, e1, e2, e3, e4⟩ := I.ex
 refine ⟨els, .inr ⟨ow, by rw [e2], e1, I.lt, fun e => by rw [e] at e2; exact hn e2.symm⟩, e2, fun i hi => ?_⟩
 obtain ⟨b, b1, b2, _⟩ := e3 i hi
 exact ⟨b, b1, b2⟩
theorem rows_nil (h : Heap) : RowsV h .nilslice [] := ⟨[], .inl ⟨rfl, rfl⟩, rfl, fun k p hk => by simp at hk⟩
theorem OwnV.ext {h h' : Heap} {v : AV} {n : Nat} {O : Nat -> List (List Int)} (r : OwnV h v n O) (x : HExt h h') : OwnV h' v n O := by
 obtain ⟨els, h1, h2, h3⟩ := r
 refine ⟨els, h1.ext x, h2, fun i hi => ?_⟩
 obtain ⟨b, b1, b2⟩ := h3 i hi
 exact ⟨b, b1, b2.ext x⟩
theorem bz_ok {L : List (List Int)} {n : Nat} (hL : ∀ p ∈ L, p.length = n /\ PLt 3 p) : ∀ p ∈ L, bzC p <= 1 /\ (bzC p = 0 -> ∀ r ∈ p, r = -1) := fun p hp => by
 unfold bzC
 split
 ·exact ⟨Nat.le_refl _, fun e => by cases e⟩
 ·rename_i h
  refine ⟨by omega, fun _ r hr => ?_⟩
  have h0 : busyL p = 0 := by omega
  unfold busyL at h0
  have h1 := List.countP_eq_zero.1 h0 r hr
  have h2 := (hL p hp).2 r hr
  simp only [ge_iff_le, decide_eq_true_eq] at h1
  omega
def capR (l : List (List Int)) (O : Nat -> List (List Int)) : Prop := ∀ i, (O i).length + l.length <= 256
theorem cap_step {kp : Nat -> List Int -> Bool} (o : List Int) (rem : List (List Int)) (s s' : Nat -> List (List Int)) (h : capR (o :: rem) s) (e : ownS kp o s = (s', true)) : capR rem s' := by
 intro i
 have := h i
 unfold ownS at e
 cases e
 simp only [List.length_cons] at this
 simp only
 split
 ·simp only [List.length_append, List.length_cons, List.length_nil]; omega
 ·omega
theorem fit_le {α : Type} (q : α -> Bool) (l : List α) : (l.filter q).length <= l.length := List.length_filter_le ..
theorem cap_all {m : Hs} (ho : HOk m) {nn : Nat} (hn : nn <= 4) : capR (pathsL (suitO m.op) m.rooms.length nn []) (fun _ => []) := by
 intro i
 rw [paths_fits]
 have h1 := fit_le (fun p => fitsP m.op p) (allP m.rooms.length nn)
 rw [allP_len] at h1
 have h2 := ho.rooms
 have h3 : (m.rooms.length + 1) ^ nn <= 4 ^ 4 := Nat.le_trans (Nat.pow_le_pow_left (by omega) nn) (Nat.pow_le_pow_right (by omega) hn)
 simp only [List.length_nil]
 omega
def rosV (m : Hs) : AV := if houseB m = true then (match bstO m m.hours.toNat with
  | some g => .tuple [slN (lsE g), .int .i64 (costR bzC g), .int .i64 0]
  | none => .tuple [.nilslice, .int .i64 0, .int .i64 5]) else .tuple [.nilslice, .int .i64 0, .int .i64 2]
noncomputable def cSV : Itr
 | 82 => some (flatFnD sp82)
 | 89 => some (pureFn sp89)
 | 90 => some go90
 | 97 => some (flatFnD sp97)
 | 143 => some (pureFn sp143)
 | 136 => some (pureFn sp136)
 | 137 => some (pureFn sp137)
 | _ => none
theorem cSV_sound : Sound (dX cSV) := dX_sound (fun f g h => by
 unfold cSV at h
 split at h
 ·cases h; exact F82D
 ·cases h; exact F89
 ·cases h; exact F90
 ·cases h; exact F97D
 ·cases h; exact F143
 ·cases h; exact F136
 ·cases h; exact F137
 ·cases h)
theorem hdSV : CxD cSV := ⟨rfl, rfl, rfl, rfl, rfl⟩
attribute [local irreducible] houseB pathB airS failsH hasB allP orI bitI goP bstO costR bzC kpB RowsV lsE workedL pathsL
set_option maxHeartbeats 32000000 in
theorem R27 (m : Hs) (ra fa oa ha : AV) (hm : HsA m ra fa oa ha) : ClR (dX cSV) 27 [.agg [.int .i64 m.hours, ra, fa, oa, ha]] emptyHp (isQ (rosV m)) := by
 have o1 := sl_out hm.r
 have o2 := sl_out hm.f
 have o3 := sl_out hm.o
 have o4 := sl_out hm.h
 have k82 := fun h => K82p (X := dX cSV) rfl hm h
 unfold rosV
 cases hb : houseB m with
 | false =>
  rw [hb] at k82
  simp only [Bool.false_eq_true, if_false]
  clear hm hb
  refine ClR.walk (c := _) rfl Tryz.func27 rfl (by kernel_rfl) rfl isQ_fail ?_
  try simp only [entryEnv, Nat.reduceAdd, List.nil_append, List.cons_append, emptyHp]
  repeat' (first | refine goS ?_ | (apply U6; exact Z1; exact Z1; (exact k82 _); simp only [pM, pN, rR, rP]) | (refine go2 ?_ ?_ <;> intro hh) | fail)
  all_goals (simp only [resV_def (X := dX cSV) Tryz.func27, Tryz.results27]; first | exact J5 | refine J6 ?_)
  exact isQ_ret (.flat rfl)
 | true =>
  rw [hb] at k82
  simp only [if_true]
  have ho := house_ok hb
  obtain ⟨nn, hnn, hnt, hn1, hn4, hol⟩ := ho_parts ho
  have hr3 := ho.rooms
  have hh4 := ho.hands
  have hd := C83 hdSV m ra fa oa ha hm ho 1 ((Mp.nil : Mp Blk).set 0 (.var [.int .i64 m.hours, ra, fa, oa, ha]))
  unfold ClR dayR at hd
  obtain ⟨_, hcl, ⟨dn, dm⟩, a, mid, l, rfl, hx, hsl, hg, hl, hmid⟩ := hd
  have lra := sl_len hm.r
  have lha := sl_len hm.h
  have oa5 := sl_out hsl
  have k87 := C87 (c := cSV) rfl m.hours ra fa oa ha (.func (.func 88) [] [.ptr 0 0]) o1 o2 o3 o4 rfl rfl rfl
  have hdn : 1 <= dn := hx.1
  have hmd : mid < dn := hmid
  have g0 : dm.get 0 = some (.var [.int .i64 m.hours, ra, fa, oa, ha]) := by
   have := hx.2 0 (by simp only; omega)
   simp only [hp_get] at this
   rw [this]
   simp
  have hpq : ∀ p, p.length = nn -> PLt m.rooms.length p -> pathB m p = true := fun p q1 q2 => by
   unfold pathB
   rw [q1, Bool.and_eq_true, List.all_eq_true]
   refine ⟨by rw [hnn]; simp, fun x hx => ?_⟩
   rw [w64_small (by omega) (by omega), inB_iff]
   have := q2 x hx
   omega
  have hH4 : m.hands.length <= 4 := hh4.2
  rw [hnt]
  rw [hnn] at hcl k82 k87 g0 ⊢
  have HPQ := J1 hpq
  have HG := J1 hg
  have HDN := J1 hdn
  have HMD := J1 hmd
  have HHM := J1 hm
  have HHO := J1 ho
  have HSL := J1 hsl
  have HLL := J1 hl
  have HN := J1 (And.intro hnn (And.intro hn1 hn4))
  have HOL := J1 hol
  have HH4 := J1 hh4
  have HR3 := J1 hr3
  clear hm hb ho hnn hnt hn1 hn4 hol hr3 hx hsl hg hl hmid hdn hmd hpq hh4
  obtain ⟨a1, a2, a3, a4, a5, a6, a7, a8⟩ := offs dn
  obtain ⟨e1, e2, e3, e4, e5, e6, e7, e8⟩ := offs (dn + 1)
  obtain ⟨i1, i2, i3, i4, i5, i6, i7, i8⟩ := offs (dn + 1 + 1)
  obtain ⟨j1, j2, j3, j4, j5, j6, j7, j8⟩ := offs (dn + 1 + 1 + 1)
  have nz : (dn == 0) = false := by simp only [beq_eq_false_iff_ne, ne_eq]; have := HDN.out; omega
  have nz1 : (dn + 1 == 0) = false := by simp only [beq_eq_false_iff_ne, ne_eq]; omega
  have nz2 : (dn + 1 + 1 == 0) = false := by simp only [beq_eq_false_iff_ne, ne_eq]; omega
  refine ClR.walk (c := _) rfl Tryz.func27 rfl (by kernel_rfl) rfl isQ_fail ?_
  try simp only [entryEnv, Nat.reduceAdd, List.nil_append, List.cons_append, emptyHp]
  repeat' (first | (apply WO1.make89 (n := m.hands.length); (focus (first | exact Z2 | exact Z1)); (focus (first | exact Z2 | exact Z1)); (focus (exact hH4)); simp only [pM, pN]) | refine go1 ?_ | (apply U6; exact Z1; exact Z1; (focus (first | exact k82 _ | exact hcl | exact k87 _ _)); simp only [pM, pN, rR, rP]) | (refine go2 ?_ ?_ <;> intro hh) | fail)
  obtain ⟨mm, hmm⟩ : ∃ mm, mm = ((((((dm.set dn (.var [.int .i64 0, .nilslice, .nilslice, .nilslice, .nilslice, .nilslice, .nilmap])).set dn (.var [.int .i64 ↑nn, ra, fa, oa, ha, a, .map mid])).set (dn + 1) (.rw 1 (List.replicate m.hands.length AV.nilslice))).set (dn + 1 + 1) (.var [.nilslice])).set (dn + 1 + 1) (.var [.row (dn + 1) 0 m.hands.length])).set (dn + 1 + 1 + 1) (.var [.int .i64 ↑nn, ra, fa, oa, ha])).set (dn + 1 + 1 + 1 + 1) (.var [.func (.func 88) [] [.ptr 0 0]]) := ⟨_, rfl⟩
  rw [<- hmm]
  have m0 : mm.get 0 = some (.var [.int .i64 ↑nn, ra, fa, oa, ha]) := by
   have := HDN.out
   rw [hmm]
   repeat rw [Mp.get_set, if_neg (by omega)]
   exact g0
  have mD : mm.get dn = some (.var [.int .i64 ↑nn, ra, fa, oa, ha, a, .map mid]) := by
   rw [hmm]
   repeat (first | rw [get_set_same] | rw [Mp.get_set, if_neg (by omega)])
  have mR : mm.get (dn + 1) = some (.rw 1 (List.replicate m.hands.length AV.nilslice)) := by
   rw [hmm]
   repeat (first | rw [get_set_same] | rw [Mp.get_set, if_neg (by omega)])
  have m6 : mm.get (dn + 1 + 1) = some (.var [.row (dn + 1) 0 m.hands.length]) := by
   rw [hmm]
   repeat (first | rw [get_set_same] | rw [Mp.get_set, if_neg (by omega)])
  have mH : mm.get (dn + 1 + 1 + 1) = some (.var [.int .i64 ↑nn, ra, fa, oa, ha]) := by
   rw [hmm]
   repeat (first | rw [get_set_same] | rw [Mp.get_set, if_neg (by omega)])
  have mS : mm.get (dn + 1 + 1 + 1 + 1) = some (.var [.func (.func 88) [] [.ptr 0 0]]) := by
   rw [hmm]
   repeat (first | rw [get_set_same] | rw [Mp.get_set, if_neg (by omega)])
  have mM : mm.get mid = some (.mp (entE m l)) := by
   have := HMD.out
   rw [hmm]
   repeat rw [Mp.get_set, if_neg (by omega)]
   exact HG.out
  clear hmm g0 hcl k82 k87
  have GET : ∀ blk id, id < dn + 1 + 1 + 1 + 1 + 1 -> (Heap.new ⟨dn + 1 + 1 + 1 + 1 + 1, mm⟩ blk).get id = mm.get id := fun blk id hid => by
   rw [Heap.get_new, if_neg (by simp only; omega)]
   rfl
  have GEL : ∀ blk, (Heap.new ⟨dn + 1 + 1 + 1 + 1 + 1, mm⟩ blk).get (dn + 1 + 1 + 1 + 1 + 1) = some blk := fun blk => by
   rw [Heap.get_new, if_pos rfl]
  have NXT : ∀ blk, (Heap.new ⟨dn + 1 + 1 + 1 + 1 + 1, mm⟩ blk).next = dn + 1 + 1 + 1 + 1 + 1 + 1 := fun _ => rfl
  have NEW : ∀ blk, OwnI m.hands.length (dn + 1) (fun _ => []) (Heap.new ⟨dn + 1 + 1 + 1 + 1 + 1, mm⟩ blk) /\ ∀ id, ownO (dn + 1) (Heap.new ⟨dn + 1 + 1 + 1 + 1 + 1, mm⟩ blk) id -> id = dn + 1 := fun blk => own_new ((GET _ _ (by omega)).trans mR) (by rw [NXT]; omega)
  have OKC := own_ok m.hands.length (dn + 1)
  obtain ⟨hnn, hn1, hn4⟩ := HN.out
  have hfold : foldS (ownS (kpB m)) (pathsL (suitO m.op) m.rooms.length nn []) (fun _ => []) = (fun i => ((allP m.rooms.length nn).filter fun p => fitsP m.op p).filter (kpB m i), true) := by
   rw [own_fold, paths_fits]
   simp only [List.nil_append]
  apply W.rangeEnds (R := stU (OwnI m.hands.length (dn + 1)) (fun _ _ => False) (ownO (dn + 1)) (fun _ => False) _ (foldS (ownS (kpB m)) (pathsL (suitO m.op) m.rooms.length nn []) (fun _ => [])))
  ·exact Z1
  ·refine G138 (OwnI m.hands.length (dn + 1)) (fun _ _ => False) (ownO (dn + 1)) (fun _ => False) OKC (ownS (kpB m)) capR cap_step cSV rfl rfl rfl nn m.rooms.length (dn + 1 + 1 + 1 + 1 + 1) (dn + 1 + 1 + 1) (dn + 1 + 1 + 1 + 1) (by omega) (by have := HR3.out; omega) _ (fun _ => []) ra fa oa ha lra o1 88 [] [.ptr 0 0] (suitO m.op)
    ((GET _ _ (by omega)).trans mH) ((GET _ _ (by omega)).trans mS) (by rw [NXT]; omega) (by rw [NXT]; omega) (fun ho => by have := (NEW _).2 _ ho; omega) (fun ho => by have := (NEW _).2 _ ho; omega) (NEW _).1 (cap_all HHO.out hn4) ?_ ?_
   ·intro ap p r h1 hrel hbl hpn _ hr _
    have w0 := ((hrel.2 0 (by rw [NXT]; omega) (fun ho => by have := (NEW _).2 _ ho; omega)).1).trans ((GET _ _ (by omega)).trans m0)
    have hs : suitO m.op p r = fitF (m.op.getD p.length 0) r := by
     unfold suitO
     rw [show decide (m.op.length <= p.length) = false by simp only [decide_eq_false_iff_not]; have := HOL.out; omega, Bool.false_or]
    rw [hs]
    exact C88 (c := cSV) rfl rfl w0 HHM.out.o o1 o2 o4 (.inr ⟨hbl, by unfold maxL; omega⟩) (by rw [HOL.out]; exact hpn) r hr
   intro s o rem ap h1 hcap i1 kx hol hpl hbl hfv
   have hk : ∀ id, id < dn + 1 + 1 + 1 + 1 + 1 -> id ≠ dn + 1 -> h1.get id = mm.get id /\ ¬ ownO (dn + 1) h1 id := fun id g1 g3 => by
    have q := kx.2 id (by rw [NXT]; omega) (fun ho => g3 ((NEW _).2 _ ho))
    exact ⟨q.1.trans (GET _ id g1), q.2⟩
   have hL0 := kx.2 (dn + 1 + 1 + 1 + 1 + 1) (by rw [NXT]; omega) (fun ho => by have := (NEW _).2 _ ho; omega)
   have hL := hL0.1.trans (GEL _)
   have fL := hL0.2
   have lL : dn + 1 + 1 + 1 + 1 + 1 < h1.next := Nat.lt_of_lt_of_le (by rw [NXT]; omega) kx.1
   obtain ⟨er, hE, hL⟩ : ∃ er, er = _ /\ h1.get (dn + 1 + 1 + 1 + 1 + 1) = some (.loop 27 er _ _ _ .ready none) := ⟨_, rfl, hL⟩
   have r1 : er.get 1 = some (.ptr 0 0) := by rw [hE, Mp.get_map]; simp [go_sem, *, noBox]
   have r5 : er.get 5 = some (.ptr dn 0) := by rw [hE, Mp.get_map]; simp [go_sem, *, noBox]
   have r6 : er.get 6 = some (.ptr (dn + 1 + 1) 0) := by rw [hE, Mp.get_map]; simp [go_sem, *, noBox]
   have hpb := HPQ.out o hol hpl
   have ho0 : o ≠ [] := fun e => by rw [e] at hol; simp at hol; omega
   have hcp := fun i => hcap i
   simp only [List.length_cons] at hcp
   have HHL := J1 hL
   have HI1 := J1 i1
   have HFL := J1 fL
   have HOL2 := J1 hol
   have HPL := J1 hpl
   have HLL2 := J1 lL
   have HOK := J1 OKC
   have HK := J1 hk
   have HBL := J1 hbl
   have HFV := J1 hfv
   have HPB := J1 hpb
   have HO0 := J1 ho0
   have HCP := J1 hcp
   have M := J1 (And.intro m0 (And.intro mD (And.intro m6 mM)))
   refine round_ok' hL rfl ?_
   clear hE hL kx hk i1 fL hol hpl hbl hfv lL hcap hL0 GET GEL NXT NEW m0 mD mR m6 mH mS mM hfold OKC hpb ho0 hcp hnn hn1 hn4
   repeat' (first | refine goS ?_ | (refine go2 ?_ ?_ <;> intro hh) | fail)
   rintro ⟨zn, zm⟩ hzn hzg hzL
   obtain ⟨hi, hi2⟩ := rnd_in HOK.out HI1.out hzn hzg HFL.out (fun z r e => by rw [HHL.out] at e; cases e)
   have hz : ∀ id, id < dn + 1 + 1 + 1 + 1 + 1 -> id ≠ dn + 1 -> (Heap.mk zn zm).get id = mm.get id /\ ¬ ownO (dn + 1) ⟨zn, zm⟩ id := fun id g1 g3 => by
    have q := HK.out id g1 g3
    exact ⟨(hzg id (by omega)).trans q.1, fun ho => q.2 (hi2 id ho)⟩
   have hzN : zn = h1.next := hzn
   have hfz : ¬ ownO (dn + 1) ⟨zn, zm⟩ (dn + 1 + 1 + 1 + 1 + 1) := fun ho => HFL.out (hi2 _ ho)
   have hbz := HBL.out.lp (fun z r e => by rw [HHL.out] at e; cases e) hzn hzg
   have hvz : FreeV (ownO (dn + 1)) ⟨zn, zm⟩ ap := fun id off n e ho => HFV.out id off n e (hi2 id ho)
   have bg := fun s4 h' => back_go HOK.out (s4 := s4) (h' := h') HI1.out hzn hzg HHL.out HFL.out HLL2.out (fun z r e => by rw [HHL.out] at e; cases e) (fun z r e => by rw [hzL] at e; cases e)
   have q0 := (hz 0 (by omega) (by omega)).1.trans M.out.1
   have hlz : dn + 1 + 1 + 1 + 1 + 1 < zn := by rw [hzN]; exact HLL2.out
   have opa := hbz.out
   have HI := J1 hi
   have HZ := J1 hz
   have HFZ := J1 hfz
   have HBZ := J1 hbz
   have HVZ := J1 hvz
   have HBG := J1 bg
   have HZL := J1 hzL
   have HLZ := J1 hlz
   simp only [hp_get] at q0
   clear hi hi2 hz hzN hfz hbz hvz bg hzL hlz hzn hzg
   repeat' (first | refine goS ?_ | (refine go2 ?_ ?_ <;> intro hh) | fail)
   refine W.loopV (m.hands.length) [5, 6, 7, 27, 28] [] (fun k e lm hp => e.get 29 = some (.int .i64 ↑k) /\ OwnI m.hands.length (dn + 1) (ownK (kpB m) o k s) hp /\ Rel (ownO (dn + 1)) ⟨zn, zm⟩ hp) ?_ ?_
   ·skip
    refine ⟨?_, ?_, Rel.refl _ _⟩
    all_goals first | exact Z2 | (simp [go_sem, *]; done) | skip
    ·rw [ownK_zero]; exact HI.out
   intro k e lm hp hk0 hce hcl hinv
   simp only [keepE, and_true] at hce
   obtain ⟨c5, c6, c7, c27, c28⟩ := hce
   simp only [go_sem, *, Nat.reduceBEq, Nat.reduceEqDiff, reduceIte] at c5 c6 c7 c27 c28
   clear hcl
   obtain ⟨h29, hI, hRl⟩ := hinv
   by_cases hlt : k < m.hands.length
   ·have hd0 : decide ((k : Int) < ((m.hands.length : Nat) : Int)) = true := by first | (simpa using hlt; done) | (simp only [decide_eq_true_eq]; omega)
    have hv_0 := wrap_succ hlt (by have := hH4; unfold maxL; omega)
    have hq : ∀ id, id < dn + 1 + 1 + 1 + 1 + 1 -> id ≠ dn + 1 -> hp.get id = mm.get id /\ id < hp.next := fun id g1 g3 => by
     have q := HZ.out id g1 g3
     have hlz := HLZ.out
     exact ⟨((hRl.2 id (by simp only; omega) q.2).1).trans q.1, Nat.lt_of_lt_of_le (by simp only; omega) hRl.1⟩
    have hmd := HMD.out
    have hdn := HDN.out
    obtain ⟨qm1, qm2⟩ := hq mid (by omega) (by omega)
    obtain ⟨qd1, qd2⟩ := hq dn (by omega) (by omega)
    obtain ⟨q61, q62⟩ := hq (dn + 1 + 1) (by omega) (by omega)
    have hbp := (FreeV.rel hRl HBZ.out HVZ.out).1
    have hap := HCP.out k
    have hcl9 : (ownK (kpB m) o k s k).length <= 1000 := by
     unfold ownK
     rw [show decide (k < k) = false by simp, Bool.false_and, if_neg (by simp)]
     omega
    have hkp := kp_same (m := m) (i := k) (p := o) (by have := HOL2.out; have := HN.out; omega) (fun x hx => (HPL.out x hx).1)
    refine R27_2 (c := cSV) rfl _ _ m HHO.out ra fa oa ha a ap mid dn (dn + 1 + 1) (dn + 1) k (ownK (kpB m) o k s) o e lm hp HHM.out ⟨by rw [HN.out.1]; exact qd1.trans M.out.2.1, HSL.out, l, qm1.trans M.out.2.2.2, HLL.out⟩ (q61.trans M.out.2.2.1) qd2 qm2 q62 (by omega) (by omega) hI hlt hcl9 hbp HO0.out (by have := HOL2.out; have := HN.out; unfold maxL; omega) HPB.out c5 c6 c7 c27 c28 h29 (fun e' lm' h' ke k29 hI' hR' => ?_)
    have hI2 : OwnI m.hands.length (dn + 1) (ownK (kpB m) o (k + 1) s) h' := by
     rw [hkp] at hI'
     cases hkk : kpB m k o with
     | true =>
      rw [ownK_yes hkk]
      simp only [hkk, if_true] at hI'
      exact hI'
     | false =>
      rw [ownK_no hkk]
      have hf : (fun j => if j = k then (if kpB m k o = true then ownK (kpB m) o k s j ++ [o] else ownK (kpB m) o k s j) else ownK (kpB m) o k s j) = ownK (kpB m) o k s := by
       funext j
       rw [hkk]
       split <;> simp
      rw [hf] at hI'
      exact hI'
    have HI2 := J1 hI2
    have HR2 := J1 (hRl.trans hR')
    have HLT0 := J1 hlt
    clear hI2 hI' hR' hRl hI hkp hcl9 hap hbp hq qm1 qm2 qd1 qd2 q61 q62 hmd hdn hlt
    simp only [keepE, and_true] at ke
    obtain ⟨k5, k6, k7, k27, k28⟩ := ke
    rw [c5] at k5
    rw [c6] at k6
    rw [c7] at k7
    rw [c27] at k27
    rw [c28] at k28
    clear c5 c6 c7 c27 c28 h29
    all_goals refine contV_mk J9 J7 J8 ?_
    all_goals refine ⟨?_, ?_, HR2.out⟩
    all_goals first | exact Z2 | skip
    all_goals exact HI2.out
   ·have hd0 : decide ((k : Int) < ((m.hands.length : Nat) : Int)) = false := by first | (simpa using hlt; done) | (simp only [decide_eq_false_iff_not]; omega)
    obtain rfl : k = m.hands.length := by omega
    have hlz := HLZ.out
    have hLL : hp.get (dn + 1 + 1 + 1 + 1 + 1) = _ := ((hRl.2 (dn + 1 + 1 + 1 + 1 + 1) (by simp only; omega) HFZ.out).1).trans HZL.out
    have hst : ownS (kpB m) o s = (fun i => if kpB m i o = true then s i ++ [o] else s i, true) := rfl
    have hI3 : OwnI m.hands.length (dn + 1) (fun i => if kpB m i o = true then s i ++ [o] else s i) hp := hI.congr (fun i hi => by unfold ownK; simp [hi]) (fun i p hp => by
     split at hp
     ·rcases List.mem_append.1 hp with g | g
      ·exact HI1.out.pos i p g
      ·rw [List.mem_singleton] at g; rw [g]; exact HO0.out
     ·exact HI1.out.pos i p hp)
    have hfin := HBG.out _ hp hI3 hRl
    have HST := J1 hst
    have HFIN := J1 hfin
    clear hI hRl hlt hI3 hst hfin hlz
    repeat' (first | refine goS ?_ | (refine go2 ?_ ?_ <;> intro hh) | fail)
    rw [roundQ_norm]
    simp only [endV, hLL]
    exact stR_go HST.out HFIN.out.1 HFIN.out.2
  ·intro r hcl hR
   rw [hfold] at hR
   obtain ⟨h', rfl, hgo1, _⟩ := hR
   obtain ⟨hI, hRel⟩ := hgo1 rfl
   have hL0 := hRel.2 (dn + 1 + 1 + 1 + 1 + 1) (by rw [NXT]; omega) (fun ho => by have := (NEW _).2 _ ho; omega)
   have hL := hL0.1.trans (GEL _)
   have y0 := ((hRel.2 0 (by rw [NXT]; omega) (fun ho => by have := (NEW _).2 _ ho; omega)).1).trans ((GET _ _ (by omega)).trans m0)
   have y6 := ((hRel.2 (dn + 1 + 1) (by rw [NXT]; omega) (fun ho => by have := (NEW _).2 _ ho; omega)).1).trans ((GET _ _ (by omega)).trans m6)
   have hnx : dn + 1 + 1 + 1 + 1 + 1 < h'.next := Nat.lt_of_lt_of_le (by rw [NXT]; omega) hRel.1
   refine W.rangeNorm rfl ?_ hcl hL (fun e => by cases e) ?_
   ·first | exact Z2 | exact Z1
   generalize hput : Heap.put h' _ _ = hz
   have hzn : hz.next = h'.next := by rw [<- hput]; rfl
   have hzg : ∀ id, id ≠ dn + 1 + 1 + 1 + 1 + 1 -> hz.get id = h'.get id := fun id hid => by rw [<- hput, Heap.get_put, if_neg (fun e => hid e.symm)]
   have hIz := (OKC.lp _ _ _ _ hI hL0.2 (fun z r e => by rw [hL] at e; cases e) hzn hzg).1
   have z0 := (hzg 0 (by omega)).trans y0
   have z6 := (hzg (dn + 1 + 1) (by omega)).trans y6
   have hzl : dn + 1 + 1 + 1 + 1 + 1 < hz.next := by rw [hzn]; exact hnx
   clear hcl hL GET GEL NXT NEW m0 mD mR mH mS mM m6 hfold hgo1 hRel hput hzn hzg y0 y6 hL0 hI hnx
   have hOwn := hIz.own (by have := HH4.out; omega)
   obtain ⟨zn, zm⟩ := hz
   simp only [hp_get] at z0 z6
   have hzl' : dn + 1 + 1 + 1 + 1 + 1 < zn := hzl
   clear hIz hzl OKC
   generalize hOO : (fun i => ((allP m.rooms.length nn).filter fun p => fitsP m.op p).filter (kpB m i)) = OO at *
   obtain ⟨hh, hhh⟩ : ∃ hh : Heap, hh = ⟨zn + 1 + 1 + 1, (((((zm.set zn (.var [.nilslice])).set (zn + 1) (.var [.int .i64 0])).set (zn + 1) (.var [.int .i64 ((m.hands.length + 1 : Nat) : Int)])).set (zn + 1 + 1) (.var [.nilfunc])).set (zn + 1 + 1) (.var [.func (.func 91) [] [.ptr (zn + 1) 0, .ptr 0 0, .ptr zn 0, .ptr (dn + 1 + 1) 0, .ptr (zn + 1 + 1) 0]]))⟩ := ⟨_, rfl⟩
   have hX : HExt ⟨zn, zm⟩ hh := by
    rw [hhh]
    refine ⟨by simp only; omega, fun id hi => ?_⟩
    simp only at hi
    simp only [hp_get]
    repeat rw [Mp.get_set, if_neg (by omega)]
   have f1 : hh.get (zn + 1) = some (.var [.int .i64 ((m.hands.length + 1 : Nat) : Int)]) := by
    rw [hhh]
    simp only [hp_get]
    repeat (first | rw [get_set_same] | rw [Mp.get_set, if_neg (by omega)])
   have f0 : hh.get zn = some (.var [.nilslice]) := by
    rw [hhh]
    simp only [hp_get]
    repeat (first | rw [get_set_same] | rw [Mp.get_set, if_neg (by omega)])
   have f2 : hh.get (zn + 1 + 1) = some (.var [.func (.func 91) [] [.ptr (zn + 1) 0, .ptr 0 0, .ptr zn 0, .ptr (dn + 1 + 1) 0, .ptr (zn + 1 + 1) 0]]) := by
    rw [hhh]
    simp only [hp_get]
    repeat (first | rw [get_set_same] | rw [Mp.get_set, if_neg (by omega)])
   have hnx : hh.next = zn + 1 + 1 + 1 := by rw [hhh]
   have hmem : ∀ p ∈ allP m.rooms.length nn, p.length = nn /\ PLt 3 p := fun p hp => by
    obtain ⟨p1, p2⟩ := allP_mem hp
    exact ⟨p1, fun x hx => by have := p2 x hx; have := HR3.out; omega⟩
   have hO : ∀ i p, p ∈ OO i -> p.length = nn /\ PLt 3 p := fun i p hp => by
    rw [<- hOO] at hp
    exact hmem p (List.mem_filter.1 (List.mem_filter.1 hp).1).1
   have hOl : ∀ i, (OO i).length <= maxL := fun i => by
    rw [<- hOO]
    have h1 := fit_le (kpB m i) ((allP m.rooms.length nn).filter fun p => fitsP m.op p)
    have h2 := fit_le (fun p => fitsP m.op p) (allP m.rooms.length nn)
    rw [allP_len] at h2
    have h3 := HR3.out
    have h4 : (m.rooms.length + 1) ^ nn <= 4 ^ 4 := Nat.le_trans (Nat.pow_le_pow_left (by omega) nn) (Nat.pow_le_pow_right (by omega) hn4)
    unfold maxL
    simp only
    omega
   have hc91 := show ClR (dX cSV) 91 (([] ++ [.nilslice, oa, .int .i64 0]) ++ [.ptr (zn + 1) 0, .ptr 0 0, .ptr zn 0, .ptr (dn + 1 + 1) 0, .ptr (zn + 1 + 1) 0]) hh _ from G91 (c := cSV) rfl rfl rfl rfl rfl rfl rfl rfl rfl rfl rfl m.hands.length nn hH4 hn1 hn4 (nn : Int) ra fa oa ha (.row (dn + 1) 0 m.hands.length) OO (zn + 1) 0 zn (dn + 1 + 1) (zn + 1 + 1) lha o1 o2 o3 o4 hO hOl m.hands.length [] .nilslice oa m.op 0 (none, m.hands.length + 1) hh (by simp) (rows_nil hh) (.inl HHM.out.o) HOL.out (sets_ok HHO.out) (by omega)
    ⟨f1, .nilslice, f0, .inl ⟨rfl, rfl⟩⟩ ⟨(hX.2 0 (by simp only; omega)).trans z0, (hX.2 (dn + 1 + 1) (by simp only; omega)).trans z6, f2, hOwn.ext hX, ⟨by omega, by omega, by omega, by omega, by omega⟩, ⟨by omega, by omega, by omega, by omega, by omega, by omega, by omega⟩⟩
   unfold ClR seR at hc91
   obtain ⟨_, hc91, ⟨wn, wm⟩, rfl, hs2, _⟩ := hc91
   rw [hhh] at hc91
   simp only [List.length_nil] at hs2
   have hlaw := best_law (L := allP m.rooms.length nn) (K := kpB m) (C := bzC) (O := OO) (n := nn) (H := m.hands.length) hmem (bz_ok hmem) (fun i => by rw [<- hOO]) (sets_ok HHO.out) HOL.out
   have hw : IntKind.i64.wrap ((m.hands.length : Int) + 1) = ((m.hands.length + 1 : Nat) : Int) := by
    have := w64_small (n := (m.hands.length : Int) + 1) (by omega) (by omega)
    unfold w64 at this
    rw [this]
    omega
   have p1 : (zn + 1 == zn) = false := by simp
   have p2 : (zn + 1 + 1 == zn) = false := by simp only [beq_eq_false_iff_ne, ne_eq]; omega
   have p3 : (zn + 1 + 1 == zn + 1) = false := by simp
   have p4 : (zn == 0) = false := by simp only [beq_eq_false_iff_ne, ne_eq]; omega
   have p5 : (zn + 1 == 0) = false := by simp
   have p6 : (zn + 1 + 1 == 0) = false := by simp
   have p7 : (zn == dn + 1 + 1) = false := by simp only [beq_eq_false_iff_ne, ne_eq]; omega
   have p8 : (zn + 1 == dn + 1 + 1) = false := by simp only [beq_eq_false_iff_ne, ne_eq]; omega
   have p9 : (zn + 1 + 1 == dn + 1 + 1) = false := by simp only [beq_eq_false_iff_ne, ne_eq]; omega
   have few := hs2.few
   have en := eq36n
   have er := eq36r
   obtain ⟨v, g1, g2⟩ := hs2.out
   simp only [hp_get] at few g1
   rcases hlaw with ⟨w1, w2, _⟩ | ⟨x, l1, l2, w1, w2, w3, _, _⟩
   ·have hb0 : bstO m nn = none := by unfold bstO; exact w1
    rw [w2] at few g2
    rw [hb0]
    rcases g2 with ⟨_, rfl⟩ | ⟨g, g3, _⟩
    ·clear hs2 hOwn hOO hhh hX f0 f1 f2 hnx hmem hO hOl w1 w2 hb0
     simp only [bN, tN]
     repeat' (first | refine goS ?_ | (apply U6; exact Z1; exact Z1; (exact hc91); simp only [pM, pN, rR, rP]) | (refine go2 ?_ ?_ <;> intro hh) | fail)
     all_goals (simp only [resV_def (X := dX cSV) Tryz.func27, Tryz.results27]; first | exact J5 | refine J6 ?_)
     exact isQ_ret (.flat rfl)
    ·cases g3
   ·have hb0 : bstO m nn = some x := by unfold bstO; exact w1
    rw [w2] at few g2
    rw [hb0]
    rcases g2 with ⟨g3, _⟩ | ⟨g, g3, hrv⟩
    ·cases g3
    obtain rfl : x = g := Option.some.inj g3
    have hxl : x.length = m.hands.length := allR_len (L := allP m.rooms.length nn) (K := kpB m) (i := 0) (left := m.op) (by rw [w3]; simp)
    unfold RowsV at hrv
    obtain ⟨els, b1, b2, b3⟩ := hrv
    have hfz : Frz ⟨wn, wm⟩ v (slN (lsE x)) := by
     have he : lsE x = (x.map intsE).map slN := by unfold lsE; rw [List.map_map]; rfl
     rw [he]
     refine b1.frz2D (by simp [b2]) (fun i hi => ?_) (fun e he => ?_)
     ·obtain ⟨q, hq⟩ := get_some (l := x) (k := i) (by omega)
      obtain ⟨b, c1, c2⟩ := b3 i q hq
      have h1 : els.getD i .junk = b := by simp [List.getD, c1]
      have h2 : (x.map intsE).getD i [] = intsE q := by simp [List.getD, hq]
      rw [h1, h2]
      exact ints_frz c2
     ·obtain ⟨i, hi, rfl⟩ := List.getElem_of_mem he
      obtain ⟨q, hq⟩ := get_some (l := x) (k := i) (by omega)
      obtain ⟨b, c1, c2⟩ := b3 i q hq
      rw [List.getElem?_eq_getElem hi] at c1
      rw [Option.some.inj c1]
      rcases c2 with ⟨rfl, _⟩ | ⟨id, rfl, _⟩ <;> rfl
    obtain ⟨rid, rn, rfl⟩ : ∃ rid rn, v = .row rid 0 rn := by
     rcases b1 with ⟨_, e⟩ | ⟨id, e, _⟩
     ·rw [e] at b2; simp at b2; have := HH4.out; omega
     ·exact ⟨id, _, e⟩
    have HFZ := J1 hfz
    clear hs2 hOwn hOO hhh hX f0 f1 f2 hnx hmem hO hOl w1 w2 w3 hb0 b1 b2 b3 hxl hfz g3
    simp only [bN, tN]
    repeat' (first | (apply W.drawQ (id := 11) (l1 := [0, 1, 2, 3, 4, 5, 6, 7]) (l2 := [8, 9, 10]); kernel_rfl; kernel_rfl; kernel_rfl; exact Z4) | (apply W.drawQ (id := 20) (l1 := [0, 1, 2, 3, 4]) (l2 := []); kernel_rfl; kernel_rfl; kernel_rfl; exact Z4) | refine go1 ?_ | (apply U6; exact Z1; exact Z1; (exact hc91); simp only [pM, pN, rR, rP]) | (refine go2 ?_ ?_ <;> intro hh) | fail)
    all_goals (simp only [resV_def (X := dX cSV) Tryz.func27, Tryz.results27]; first | exact J5 | refine J6 ?_)
    refine isQ_ret (.tuple rfl (fun i hi => ?_))
    have : i = 0 \/ i = 1 \/ i = 2 := by simp only [List.length_cons, List.length_nil] at hi; omega
    rcases this with rfl | rfl | rfl
    ·exact HFZ.out
    ·exact .flat rfl
    ·exact .flat rfl
def sp27 : List AV -> Option AV
 | [x] => (hsV x).map rosV
 | _ => none
theorem F27 : IntrFn Tryz.prog 27 (newQ sp27) := newQ_fn (X := dX cSV) cSV_sound fun args v h => by
 unfold sp27 at h
 split at h
 ·rename_i x
  cases hm : hsV x with
  | none => rw [hm] at h; cases h
  | some m =>
   rw [hm] at h
   have h := Option.some.inj h
   subst h
   obtain ⟨ra, fa, oa, ha, rfl, hA⟩ := hs_parts' hm
   exact R27 m ra fa oa ha hA
 ·cases h
theorem K27 {X : Ctx} (hX : X.intr 27 = some (newQ sp27)) {m : Hs} {ra fa oa ha : AV} (hm : HsA m ra fa oa ha) (h : Heap) : Cl X 27 [.agg [.int .i64 m.hours, ra, fa, oa, ha]] h (.ret (rosV m) h none) := by
 refine Cl.newQ hX (l := [.agg [.int .i64 m.hours, ra, fa, oa, ha]]) ?_ ?_
 ·have e3 : viewD h (.agg [.int .i64 m.hours, ra, fa, oa, ha]) = some (.agg [.int .i64 m.hours, ra, fa, oa, ha]) := viewD_p hm.pur
  simp only [viewDs, e3]
 ·simp only [sp27, hm.hs, Option.map_some]
end Go.AM
namespace Go.AM
open Go Go.Proofs
variable [Keep]
attribute [local irreducible] W WO WO1 WD WQ WT thenQ blockQ endR isRet retK Cl ClR
open Go.TX (Rm Fa Ha Hs)
def sp30 : List AV -> Option AV
 | [a] => match lisV a with
  | some g => some (.int .i64 ((costR bzC g : Nat) : Int))
  | none => none
 | _ => none
theorem p30 : ∀ args v, sp30 args = some v -> v.pur = true := by
 intro args v h
 unfold sp30 at h
 split at h
 ·split at h
  ·cases h; rfl
  ·cases h
 ·cases h
noncomputable def cSS : Itr
 | 34 => some (flatFnD sp34)
 | _ => none
theorem cSS_sound : Sound (dX cSS) := dX_sound (fun f g h => by
 unfold cSS at h
 split at h
 ·cases h; exact F34
 ·cases h)
theorem F30 : IntrFn Tryz.prog 30 (pureFn sp30) := by
 refine pure_fn (X := dX cSS) cSS_sound p30 ?_
 intro args v h
 unfold sp30 at h
 split at h
 ·rename_i a
  split at h
  ·rename_i g hg
   cases h
   unfold ClR
   exact ⟨_, C30 (c := cSS) rfl rfl a g hg (fun _ _ _ _ => trivial) emptyHp, isRet_ret.2 rfl⟩
  ·cases h
 ·cases h
def sp29S : List AV -> Option AV
 | [a, b] => match lisV a, lisV b with
  | some g, some k => if g = k then some (.bool true) else none
  | _, _ => none
 | _ => none
def chS : Int -> List Int -> Bool
 | s, [] => s == 0
 | s, r :: l => fitF s r && chS (tkF s r) l
theorem hasB_zero : ∀ q : Nat, q < 3 -> hasB 0 q = false := fun q hq => by
 have : q = 0 \/ q = 1 \/ q = 2 := by omega
 rcases this with rfl | rfl | rfl <;> decide
theorem chS_law : ∀ {l : List Int} {s : Int}, 0 <= s /\ s < 8 -> (∀ x ∈ l, -1 <= x /\ x < 3) -> (chS s l = true ↔ ∀ q : Nat, q < 3 -> l.count (q : Int) = if hasB s q = true then 1 else 0)
 | [], s, hs, _ => by
  rw [chS]
  constructor
  ·intro h q hq
   have : s = 0 := by simpa using h
   subst this
   rw [hasB_zero q hq]
   rfl
  ·intro h
   have : s = 0 := bit_ext hs (by omega) fun q hq => by
    have := h q hq
    rw [hasB_zero q hq]
    cases hb : hasB s q with
    | false => rfl
    | true => rw [hb] at this; simp at this
   simp [this]
 | r :: l, s, hs, hl => by
  have hr := hl r (by simp)
  have hl' : ∀ x ∈ l, -1 <= x /\ x < 3 := fun x hx => hl x (by simp [hx])
  rw [chS]
  unfold fitF tkF
  by_cases e : r = -1
  ·subst e
   have e1 : ((-1 : Int) == -1) = true := rfl
   rw [e1, Bool.true_or, Bool.true_and, if_pos rfl, chS_law hs hl']
   have hc : ∀ q : Nat, ((-1 : Int) :: l).count (q : Int) = l.count (q : Int) := fun q => by
    rw [List.count_cons]
    have : ((-1 : Int) == (q : Int)) = false := by simp only [beq_eq_false_iff_ne, ne_eq]; omega
    rw [this]
    simp
   simp only [hc]
  ·have e1 : (r == -1) = false := by simp [e]
   obtain ⟨rn, rfl⟩ : ∃ rn : Nat, r = rn := ⟨r.toNat, by omega⟩
   rw [e1, Bool.false_or, if_neg (by simp)]
   have hrn : rn < 3 := by omega
   cases hb : hasB s rn with
   | false =>
    simp only [Bool.false_and, Bool.false_eq_true, false_iff]
    intro h
    have := h rn hrn
    rw [hb, List.count_cons_self] at this
    simp at this
   | true =>
    have hk := tk_ok (r := rn) hs hrn hb
    rw [Bool.true_and, chS_law hk.val hl']
    have key : ∀ q : Nat, q < 3 -> (l.count (q : Int) = (if hasB (andN s (bitI rn)) q = true then 1 else 0) ↔ ((rn : Int) :: l).count (q : Int) = if hasB s q = true then 1 else 0) := fun q hq => by
     rw [hk.has q hq, List.count_cons]
     by_cases eq : q = rn
     ·subst eq
      have : (Nat.beq q q) = true := Nat.beq_refl q
      rw [this, hb]
      simp
     ·have h1 : Nat.beq q rn = false := by
       cases hq' : Nat.beq q rn with
       | false => rfl
       | true => exact absurd (Nat.eq_of_beq_eq_true hq') eq
      have h2 : ((rn : Int) == (q : Int)) = false := by simp only [beq_eq_false_iff_ne, ne_eq]; omega
      rw [h1, h2]
      simp
    exact ⟨fun h q hq => (key q hq).1 (h q hq), fun h q hq => (key q hq).2 (h q hq)⟩
def chG : List Int -> List (List Int) -> Bool
 | left, [] => left.all fun s => s == 0
 | left, p :: t => fitsP left p && chG (takeP left p) t
theorem fits_iff : ∀ {l p : List Int}, l.length = p.length -> (fitsP l p = true ↔ ∀ k, k < l.length -> fitF (l.getD k 0) (p.getD k 0) = true)
 | [], p, _ => by
  constructor
  ·intro _ k hk; simp at hk
  ·intro _; cases p <;> rfl
 | s :: l, [], h => by simp at h
 | s :: l, r :: p, h => by
  rw [fitsP, Bool.and_eq_true, fits_iff (by simpa using h)]
  constructor
  ·rintro ⟨h1, h2⟩ k hk
   cases k with
   | zero => simpa using h1
   | succ k => simpa using h2 k (by simpa using hk)
  ·intro h1
   exact ⟨by simpa using h1 0 (by simp), fun k hk => by simpa using h1 (k + 1) (by simpa using hk)⟩
theorem take_at : ∀ {l p : List Int} {k : Nat}, l.length = p.length -> k < l.length -> (takeP l p).getD k 0 = tkF (l.getD k 0) (p.getD k 0)
 | [], p, k, _, h => by simp at h
 | s :: l, [], k, h, _ => by simp at h
 | s :: l, r :: p, k, h, hk => by
  rw [takeP]
  cases k with
  | zero => simp
  | succ k => simpa using take_at (l := l) (p := p) (k := k) (by simpa using h) (by simpa using hk)
theorem chG_col : ∀ {g : List (List Int)} {left : List Int} {n : Nat}, left.length = n -> (∀ p ∈ g, p.length = n) -> (chG left g = true ↔ ∀ k, k < n -> chS (left.getD k 0) (colL g k) = true)
 | [], left, n, hn, _ => by
  rw [chG, List.all_eq_true]
  constructor
  ·intro h k hk
   obtain ⟨s, hs⟩ := get_some (l := left) (k := k) (by omega)
   have : left.getD k 0 = s := by simp [List.getD, hs]
   rw [this]
   exact h s (List.mem_of_getElem? hs)
  ·intro h s hs
   obtain ⟨k, hk, rfl⟩ := List.getElem_of_mem hs
   have := h k (by omega)
   have e : left.getD k 0 = left[k] := by simp [List.getD, hk]
   rw [e] at this
   exact this
 | p :: t, left, n, hn, hp => by
  have hpl := hp p (by simp)
  rw [chG, Bool.and_eq_true, fits_iff (by omega), chG_col (n := n) (by rw [takeP_len]; exact hn) fun q hq => hp q (by simp [hq])]
  have hc : ∀ k, colL (p :: t) k = p.getD k 0 :: colL t k := fun k => rfl
  simp only [hc, chS, Bool.and_eq_true]
  constructor
  ·rintro ⟨h1, h2⟩ k hk
   refine ⟨h1 k (by omega), ?_⟩
   rw [<- take_at (by omega) (by omega)]
   exact h2 k hk
  ·intro h
   refine ⟨fun k hk => (h k (by omega)).1, fun k hk => ?_⟩
   rw [take_at (by omega) (by omega)]
   exact (h k hk).2
theorem mem_allR {L : List (List Int)} {K : Nat -> List Int -> Bool} : ∀ {d i : Nat} {left : List Int} {g : List (List Int)}, g ∈ allR L K d i left ↔ g.length = d /\ (∀ p ∈ g, p ∈ L) /\ (∀ j, j < d -> K (i + j) (g.getD j []) = true) /\ chG left g = true
 | 0, i, left, g => by
  rw [allR]
  constructor
  ·intro h
   split at h
   ·rename_i h0
    rw [List.mem_singleton] at h
    subst h
    exact ⟨rfl, fun p hp => (by cases hp), fun j hj => absurd hj (Nat.not_lt_zero j), h0⟩
   ·cases h
  ·rintro ⟨h1, _, _, h4⟩
   have : g = [] := List.length_eq_zero_iff.1 h1
   subst this
   rw [chG] at h4
   rw [if_pos h4]
   simp
 | d + 1, i, left, g => by
  rw [allR_succ, List.mem_flatMap]
  constructor
  ·rintro ⟨p, hp, h⟩
   obtain ⟨p1, p2⟩ := List.mem_filter.1 hp
   split at h
   ·rename_i hf
    obtain ⟨t, ht, rfl⟩ := List.mem_map.1 h
    obtain ⟨q1, q2, q3, q4⟩ := mem_allR.1 ht
    refine ⟨by rw [List.length_cons, q1], fun x hx => ?_, fun j hj => ?_, ?_⟩
    ·rcases List.mem_cons.1 hx with rfl | hx
     ·exact p1
     ·exact q2 x hx
    ·cases j with
     | zero => simpa using p2
     | succ j =>
      have := q3 j (by omega)
      have e : i + (j + 1) = i + 1 + j := by omega
      rw [e]
      simpa using this
    ·rw [chG, hf, q4]; rfl
   ·cases h
  ·rintro ⟨h1, h2, h3, h4⟩
   cases g with
   | nil => simp at h1
   | cons p t =>
    rw [chG, Bool.and_eq_true] at h4
    refine ⟨p, List.mem_filter.2 ⟨h2 p (by simp), by simpa using h3 0 (by omega)⟩, ?_⟩
    rw [if_pos h4.1]
    refine List.mem_map.2 ⟨t, mem_allR.2 ⟨by simpa using h1, fun x hx => h2 x (by simp [hx]), fun j hj => ?_, h4.2⟩, rfl⟩
    have := h3 (j + 1) (by omega)
    have e : i + (j + 1) = i + 1 + j := by omega
    rw [e] at this
    simpa using this
theorem path_mem {m : Hs} (ho : HOk m) {p : List Int} (h : p ∈ allP m.rooms.length m.hours.toNat) : pathB m p = true := by
 obtain ⟨q1, q2⟩ := allP_mem h
 have h1 := ho.hours
 have h2 := ho.rooms
 unfold pathB
 rw [q1, Bool.and_eq_true, List.all_eq_true]
 refine ⟨by simp; omega, fun x hx => ?_⟩
 rw [w64_small (by omega) (by omega), inB_iff]
 have := q2 x hx
 omega
theorem ros_mem {m : Hs} (ho : HOk m) {nn : Nat} (hn : m.hours = nn) (g : List (List Int)) : g ∈ allR (allP m.rooms.length nn) (kpB m) m.hands.length 0 m.op ↔ rosB m g = true /\ stafB m g = true := by
 have hop := ho.op
 have hr3 := ho.rooms
 have hh := ho.hours
 have hnt : m.hours.toNat = nn := by omega
 have hol : m.op.length = nn := by omega
 have hset : ∀ k, 0 <= m.op.getD k 0 /\ m.op.getD k 0 < 8 := fun k => by
  cases hq : m.op[k]? with
  | none => simp [List.getD, hq]
  | some s =>
   have h1 := ho.set s (List.mem_of_getElem? hq)
   have h2 : (2 : Int) ^ m.rooms.length <= 8 := by
    have : m.rooms.length = 1 \/ m.rooms.length = 2 \/ m.rooms.length = 3 := by omega
    rcases this with e | e | e <;> rw [e] <;> decide
   have e : m.op.getD k 0 = s := by simp [List.getD, hq]
   rw [e]
   omega
 have hcol : ∀ {g : List (List Int)}, (∀ p ∈ g, pathB m p = true) -> ∀ k, k < nn -> ∀ x ∈ colL g k, -1 <= x /\ x < 3 := fun {g} hg k hk x hx => by
  obtain ⟨p, h1, rfl⟩ := List.mem_map.1 hx
  obtain ⟨q1, q2⟩ := path_is ho (hg p h1)
  obtain ⟨r, hr⟩ := get_some (l := p) (k := k) (by omega)
  have : p.getD k 0 = r := by simp [List.getD, hr]
  rw [this]
  have := q2 r (List.mem_of_getElem? hr)
  omega
 have hopen : ∀ {g : List (List Int)}, (∀ p ∈ g, pathB m p = true) -> ∀ k, k < nn -> (openAt m g k = true ↔ chS (m.op.getD k 0) (colL g k) = true) := fun {g} hg k hk => by
  rw [chS_law (hset k) (hcol hg k hk), <- met_law (n := 3) (by omega) (hcol hg k hk) (hset k)]
  unfold openAt
  cases metF (colL g k) 0 with
  | none => simp
  | some t => simp
 have hkp : ∀ {p : List Int}, pathB m p = true -> ∀ i, (decide (workedL p <= mostAt m i) && decide ((airS m p).2 <= limAt m i)) = kpB m i p := fun {p} hp i => by
  obtain ⟨q1, q2⟩ := path_is ho hp
  exact kp_same (by omega) fun x hx => (q2 x hx).1
 rw [mem_allR]
 constructor
 ·rintro ⟨h1, h2, h3, h4⟩
  have hpb : ∀ p ∈ g, pathB m p = true := fun p hp => path_mem ho (by rw [hnt]; exact h2 p hp)
  have hch := (chG_col hol fun p hp => (allP_mem (h2 p hp)).1).1 h4
  refine ⟨?_, ?_⟩
  ·unfold rosB
   rw [any_not2]
   simp only [Bool.and_eq_true, List.all_eq_true, List.mem_range]
   refine ⟨⟨by simp [h1], hpb⟩, fun k hk => ?_⟩
   exact (hopen hpb k (by omega)).2 (hch k (by omega))
  ·unfold stafB
   rw [List.all_eq_true]
   intro i hi
   have hi := List.mem_range.1 hi
   obtain ⟨p, hp⟩ := get_some hi
   have e : g.getD i [] = p := by simp [List.getD, hp]
   have := h3 i (by omega)
   rw [e] at this ⊢
   rw [hkp (hpb p (List.mem_of_getElem? hp)) i]
   simpa using this
 ·rintro ⟨h1, h2⟩
  have hro := ros_ok h1
  have hlen : ∀ p ∈ g, p.length = nn := fun p hp => by
   have := (path_is ho (hro.path p hp)).1
   omega
  refine ⟨hro.len, fun p hp => by rw [<- hnt]; exact pathM ho (hro.path p hp), fun j hj => ?_, (chG_col hol hlen).2 fun k hk => (hopen hro.path k hk).1 (hro.hour k (by omega))⟩
  unfold stafB at h2
  rw [List.all_eq_true] at h2
  have h3 := h2 j (List.mem_range.2 (by rw [hro.len]; exact hj))
  obtain ⟨p, hp⟩ := get_some (l := g) (k := j) (by rw [hro.len]; exact hj)
  have e : g.getD j [] = p := by simp [List.getD, hp]
  rw [e] at h3 ⊢
  rw [hkp (hro.path p (List.mem_of_getElem? hp)) j] at h3
  simpa using h3
theorem allB_strict (rl : Nat) : ∀ k, (allB rl k).Pairwise fun a b => lexD b a = some false
 | 0 => by
  rw [allB]
  exact List.pairwise_singleton _ _
 | k + 1 => by
  have ih := allB_strict rl k
  rw [allB, List.pairwise_flatMap]
  refine ⟨fun i _ => ?_, ?_⟩
  ·rw [List.pairwise_map]
   refine ih.imp fun {a b} h => ?_
   rw [lexD, if_neg (by simp)]
   exact h
  ·refine (List.pairwise_lt_range (n := rl + 1)).imp fun {i j} hij x hx y hy => ?_
   obtain ⟨u, _, rfl⟩ := List.mem_map.1 hx
   obtain ⟨v, _, rfl⟩ := List.mem_map.1 hy
   rw [lexD, if_pos (by simp only [bne_iff_ne, ne_eq]; omega)]
   simp only [Option.some.injEq, decide_eq_false_iff_not]
   omega
theorem allP_strict (rl k : Nat) : (allP rl k).Pairwise fun a b => lexD b a = some false := allB_all rl k ▸ allB_strict rl k
theorem befG_self : ∀ g : List (List Int), befG g g = false
 | [] => rfl
 | p :: g => by rw [befG, lexD_self]; exact befG_self g
theorem allR_sort {L : List (List Int)} {K : Nat -> List Int -> Bool} (hL : L.Pairwise fun a b => lexD b a = some false) : ∀ (d i : Nat) (left : List Int), (allR L K d i left).Pairwise fun a b => befG b a = false
 | 0, i, left => by
  rw [allR]
  split
  ·exact List.pairwise_singleton _ _
  ·exact List.Pairwise.nil
 | d + 1, i, left => by
  rw [allR_succ, List.pairwise_flatMap]
  refine ⟨fun p _ => ?_, ?_⟩
  ·split
   ·rw [List.pairwise_map]
    refine (allR_sort hL d (i + 1) (takeP left p)).imp fun {a b} h => ?_
    rw [befG, lexD_self]
    exact h
   ·exact List.Pairwise.nil
  ·refine (hL.filter (K i)).imp fun {p q} hpq x hx y hy => ?_
   split at hx
   ·obtain ⟨s, _, rfl⟩ := List.mem_map.1 hx
    split at hy
    ·obtain ⟨t, _, rfl⟩ := List.mem_map.1 hy
     rw [befG, hpq]
     rfl
    ·cases hy
   ·cases hx
theorem rival {L : List (List Int)} {K : Nat -> List Int -> Bool} {C : List Int -> Nat} {d i : Nat} {left : List Int} (hL : L.Pairwise fun a b => lexD b a = some false) {x : List (List Int)} {l1 l2 : List (List (List Int))} (h : allR L K d i left = l1 ++ x :: l2) (h1 : ∀ y ∈ l1, costR C x < costR C y) (h2 : ∀ y ∈ l2, costR C x <= costR C y) {y : List (List Int)} (hy : y ∈ allR L K d i left) : costR C x < costR C y \/ (costR C y = costR C x /\ befG y x = false) := by
 have hs := allR_sort (K := K) hL d i left
 rw [h] at hy hs
 rcases List.mem_append.1 hy with hy | hy
 ·exact .inl (h1 y hy)
 ·rcases List.mem_cons.1 hy with rfl | hy
  ·exact .inr ⟨rfl, befG_self y⟩
  ·have h3 := (List.pairwise_cons.1 (List.pairwise_append.1 hs).2.1).1 y hy
   rcases Nat.lt_or_ge (costR C x) (costR C y) with q | q
   ·exact .inl q
   ·exact .inr ⟨by have := h2 y hy; omega, h3⟩
attribute [local irreducible] houseB pathB airS failsH rosB rosR stafB keptR danL bstO costR bzC
noncomputable def c4 : Itr
 | 21 => some (pureFn sp21S)
 | 22 => some (pureFn sp22)
 | 24 => some (flatFnD sp82)
 | 27 => some (newQ sp27)
 | 29 => some (flatFnD sp29S)
 | 30 => some (flatFnD sp30)
 | 55 => some (pureFn sp55)
 | 84 => some (pureFn sp84)
 | 85 => some (pureFn sp85)
 | 99 => some (newQ sp99)
 | 147 => some (pureFn sp147)
 | _ => none
theorem hc4 : CxR c4 := ⟨rfl, rfl, rfl, rfl, rfl, rfl, rfl, rfl⟩
theorem bst_ros {m : Hs} (ho : HOk m) {nn : Nat} (hn : m.hours = nn) : (bstO m nn = none /\ allR (allP m.rooms.length nn) (kpB m) m.hands.length 0 m.op = []) \/ ∃ x l1 l2, bstO m nn = some x /\ allR (allP m.rooms.length nn) (kpB m) m.hands.length 0 m.op = l1 ++ x :: l2 /\ (∀ y ∈ l1, costR bzC x < costR bzC y) /\ ∀ y ∈ l2, costR bzC x <= costR bzC y := by
 have hop := ho.op
 have hr := ho.rooms
 have hmem : ∀ p ∈ allP m.rooms.length nn, p.length = nn /\ PLt 3 p := fun p hp => by
  obtain ⟨p1, p2⟩ := allP_mem hp
  exact ⟨p1, fun x hx => by have := p2 x hx; omega⟩
 rcases best_law (L := allP m.rooms.length nn) (K := kpB m) (C := bzC) (O := fun i => ((allP m.rooms.length nn).filter fun p => fitsP m.op p).filter (kpB m i)) (n := nn) (H := m.hands.length) (op := m.op) hmem (bz_ok hmem) (fun _ => rfl) (sets_ok ho) (by omega) with ⟨w1, _, w3⟩ | ⟨x, l1, l2, w1, _, w3, w4, w5⟩
 ·exact .inl ⟨by unfold bstO; exact w1, w3⟩
 ·exact .inr ⟨x, l1, l2, by unfold bstO; exact w1, w3, w4, w5⟩
theorem ros_len {m : Hs} (ho : HOk m) {g : List (List Int)} (h : rosB m g = true) : g.length <= 4 /\ ∀ p ∈ g, p.length <= 4 := by
 have h1 := ros_ok h
 have h2 := ho.hands
 have h3 := ho.hours
 exact ⟨by rw [h1.len]; omega, fun p hp => by have := (path_is ho (h1.path p hp)).1; omega⟩
end Go.AM
