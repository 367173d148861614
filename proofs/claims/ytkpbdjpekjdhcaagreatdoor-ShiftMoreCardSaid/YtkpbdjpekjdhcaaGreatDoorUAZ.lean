/-
  A part of the proof: contracts of functions.
-/
import Derived.Test.YtkpbdjpekjdhcaaGreatDoorUAY
set_option linter.unusedSectionVars false
set_option linter.unusedVariables false
set_option linter.unusedSimpArgs false
set_option maxRecDepth 100000
namespace Go.AM
open Go Go.Proofs
variable [Keep]
attribute [local irreducible] W WO WO1 WD WQ WT thenQ blockQ endR isRet retK Cl ClR
open Go.TX (Rm Fa Ha Hs mapO mapO_len)
attribute [local irreducible] houseB pathB airS mostF leastF dustAt
theorem mapO_dust {m : Hs} (ho : HOk m) {h : Heap} {mid : Nat} {l : List Fl} (hg : h.get mid = some (.mp (entE m l))) : ∀ {fs : List Fl}, (∀ f ∈ fs, f ∈ l) → mapO (dustAt h (.map mid)) (fs.map Fl.tell) = some (fs.map fun f => (lowG m f, highG m f))
 | [], _ => rfl
 | f :: fs, hf => by
  have h1 := day_dust ho hg (hf f (by simp))
  have h2 := mapO_dust ho hg (fs := fs) fun x hx => hf x (by simp [hx])
  simp only [List.map_cons, mapO, h1, h2]
  rfl
theorem K104d {X : Ctx} (hX : X.intr 104 = some go104) {m : Hs} (ho : HOk m) {z1 z2 z3 z4 a pa : AV} {mid : Nat} {l : List Fl} {h : Heap} {p : List Int} (ha : slV fkC a = some ((failsH m).map Fl.tell)) (hg : h.get mid = some (.mp (entE m l))) (hl : ∀ f ∈ failsH m, f ∈ l) (hp : pthV h pa = some p) (hb : pathB m p = true) :
  Cl X 104 [.agg [.int .i64 m.hours, z1, z2, z3, z4, a, .map mid], pa] h (.ret (.agg [.int .i64 (airS m p).1, .int .i64 (airS m p).2]) h none) := by
 have h1 := mapO_dust ho hg hl
 have h2 := air_most ho hb
 have h3 := air_least ho hb
 unfold gsH at h2 h3
 exact Cl.intr hX (by simp only [go104, go148, go140, ha, hp, h1, h2, h3])
theorem pth_of {h : Heap} {a : AV} {p : List Int} (hp : slV intC a = some p) : pthV h a = some p := by
 rcases (slV_is hp).1 with ⟨rfl | rfl, _⟩ | rfl <;> exact hp
noncomputable def cNT : Itr
 | 82 => some (flatFnD sp82)
 | 123 => some (pureFn sp123)
 | 102 => some (pureFn sp102)
 | 104 => some go104
 | 136 => some (pureFn sp136)
 | 137 => some (pureFn sp137)
 | _ => none
theorem cNT_sound : Sound (dX cNT) := dX_sound (fun f g h => by
 unfold cNT at h
 split at h
 ·cases h; exact F82D
 ·cases h; exact F123
 ·cases h; exact F102
 ·cases h; exact F104
 ·cases h; exact F136
 ·cases h; exact F137
 ·cases h)
theorem hdNT : CxD cNT := ⟨rfl, rfl, rfl, rfl, rfl⟩
def safeW (s : Int × Int) (limit : Int) : Int := if decide (s.2 ≤ limit) = true then 3 else if decide (s.1 > limit) = true then 1 else 2
def safeV (m : Hs) (p : List Int) (limit : Int) : AV := if (houseB m && pathB m p && inB limit 0 2000) = true then .tuple [.int .i64 (safeW (airS m p) limit), .int .i64 0] else .tuple [.int .i64 0, .int .i64 2]
def sp61 : List AV → Option AV
 | [x, .int .i64 limit, pa] => match hsV x, slV intC pa with
  | some m, some p => some (safeV m p limit)
  | _, _ => none
 | _ => none
theorem p61 : ∀ args v, sp61 args = some v → v.pur = true := by
 intro args v h
 unfold sp61 at h
 split at h
 ·split at h
  ·cases h; unfold safeV; split <;> rfl
  ·cases h
 ·cases h
set_option maxHeartbeats 4000000 in
theorem F61 : IntrFn Tryz.prog 61 (pureFn sp61) := by
 refine pure_fn (X := dX cNT) cNT_sound p61 ?_
 intro args v h
 unfold sp61 at h
 split at h
 ·rename_i xx limit pa
  split at h
  ·rename_i m p hm hp
   have h := Option.some.inj h
   subst h
   obtain ⟨ra, fa, oa, ha, rfl, hA⟩ := hs_parts' hm
   have o1 := sl_out hA.r
   have o2 := sl_out hA.f
   have o3 := sl_out hA.o
   have o4 := sl_out hA.h
   have op := sl_out hp
   have k82 := fun h => K82p (X := dX cNT) rfl hA h
   have k123 := fun h => K123 (X := dX cNT) rfl hA hp h
   have k102 := fun h => K102 (X := dX cNT) rfl limit 0 2000 h
   unfold safeV
   cases hb : houseB m with
   | false =>
    rw [hb] at k82
    simp only [Bool.false_and, Bool.false_eq_true, if_false]
    clear hm hA hp hb
    refine ClR.walk (c := _) rfl Tryz.func61 rfl (by kernel_rfl) rfl isRet_fail ?_
    try simp only [entryEnv, Nat.reduceAdd, List.nil_append, List.cons_append, emptyHp]
    repeat' (first | refine goS ?_ | (apply U6; exact Z1; exact Z1; (focus (simp only [List.nil_append, List.append_nil]; first | exact k82 _)); simp only [pM, pN, rR, rP]) | refine go2 (fun hh => ?_) (fun hh => ?_) | fail)
    all_goals (simp only [resV_def (X := dX cNT) Tryz.func61, Tryz.results61]; first | exact J5 | refine J6 ?_)
    all_goals rfl
   | true =>
    rw [hb] at k82
    cases hq : pathB m p with
    | false =>
     rw [hq] at k123
     simp only [Bool.and_false, Bool.false_and, Bool.false_eq_true, if_false]
     clear hm hA hp hb hq
     refine ClR.walk (c := _) rfl Tryz.func61 rfl (by kernel_rfl) rfl isRet_fail ?_
     try simp only [entryEnv, Nat.reduceAdd, List.nil_append, List.cons_append, emptyHp]
     repeat' (first | refine goS ?_ | (apply U6; exact Z1; exact Z1; (focus (simp only [List.nil_append, List.append_nil]; first | exact k82 _ | exact k123 _)); simp only [pM, pN, rR, rP]) | refine go2 (fun hh => ?_) (fun hh => ?_) | fail)
     all_goals (simp only [resV_def (X := dX cNT) Tryz.func61, Tryz.results61]; first | exact J5 | refine J6 ?_)
     all_goals rfl
    | true =>
     rw [hq] at k123
     cases hli : inB limit 0 2000 with
     | false =>
      rw [hli] at k102
      simp only [Bool.and_false, Bool.false_eq_true, if_false]
      clear hm hA hp hb hq hli
      refine ClR.walk (c := _) rfl Tryz.func61 rfl (by kernel_rfl) rfl isRet_fail ?_
      try simp only [entryEnv, Nat.reduceAdd, List.nil_append, List.cons_append, emptyHp]
      repeat' (first | refine goS ?_ | (apply U6; exact Z1; exact Z1; (focus (simp only [List.nil_append, List.append_nil]; first | exact k82 _ | exact k123 _ | exact k102 _)); simp only [pM, pN, rR, rP]) | refine go2 (fun hh => ?_) (fun hh => ?_) | fail)
      all_goals (simp only [resV_def (X := dX cNT) Tryz.func61, Tryz.results61]; first | exact J5 | refine J6 ?_)
      all_goals rfl
     | true =>
      rw [hli] at k102
      simp only [Bool.and_self, if_true]
      have ho := house_ok hb
      have hd := C83 hdNT m ra fa oa ha hA ho 0 .nil
      unfold ClR dayR at hd
      obtain ⟨_, hcl, h', a, mid, l, rfl, hx, hsl, hg, hl, _⟩ := hd
      have k104 := K104d (X := dX cNT) rfl ho (z1 := ra) (z2 := fa) (z3 := oa) (z4 := ha) hsl hg hl (pth_of hp) hq
      have oa5 := sl_out hsl
      clear hm hA hp hb hq ho hx hsl hg hl hli
      unfold safeW
      generalize (airS m p).1 = lo at *
      generalize (airS m p).2 = hi at *
      cases g1 : decide (hi ≤ limit) <;> cases g2 : decide (lo > limit)
      all_goals
       simp only [Bool.false_eq_true, if_false, if_true]
       refine ClR.walk (c := _) rfl Tryz.func61 rfl (by kernel_rfl) rfl isRet_fail ?_
       try simp only [entryEnv, Nat.reduceAdd, List.nil_append, List.cons_append, emptyHp]
       repeat' (first | refine goS ?_ | (apply U6; exact Z1; exact Z1; (focus (simp only [List.nil_append, List.append_nil]; first | exact k82 _ | exact k123 _ | exact k102 _ | exact hcl | exact k104)); simp only [pM, pN, rR, rP]) | refine go2 (fun hh => ?_) (fun hh => ?_) | fail)
       all_goals (simp only [resV_def (X := dX cNT) Tryz.func61, Tryz.results61]; first | exact J5 | refine J6 ?_)
       all_goals rfl
  ·cases h
 ·cases h
end Go.AM
