/-
  A part of the proof: contracts of functions.
-/
import Derived.Test.YtlhcjccaimmhgaaGreatDoorWAP
set_option linter.unusedSectionVars false
set_option linter.unusedVariables false
set_option linter.unusedSimpArgs false
set_option maxRecDepth 100000
namespace Go.AM
open Go Go.Proofs
variable [Keep]
attribute [local irreducible] W WO WO1 WD WQ WT thenQ blockQ endR isRet retK Cl ClR
def numG (s : List UInt8) : Int := (numW s).getD 1000
def sp186 : List AV → Option AV
 | [.str s] => if decide (s.length ≤ 1000) = true then some (.int .i64 (numG s)) else none
 | _ => none
theorem p186 : ∀ args v, sp186 args = some v → v.pur = true := by
 intro args v h
 unfold sp186 at h
 split at h
 ·split at h
  ·cases h; rfl
  ·cases h
 ·cases h
noncomputable def c144 : Itr
 | 144 => some (pureFn sp144)
 | _ => none
theorem c144_sound : Sound (dX c144) := dX_sound (fun f g h => by
 unfold c144 at h
 split at h
 ·cases h; exact F144
 ·cases h)
theorem numG_no {s : List UInt8} (h : formD (digsOf s) = false) : numG s = 1000 := by unfold numG; rw [num_noform h]; rfl
theorem numG_nil {s : List UInt8} (h : digsOf s = []) : numG s = 1000 := by
 unfold numG numW
 rw [h]
 rfl
theorem numG_yes {s d : List UInt8} (h : digsOf s = d) (hf : formD d = true) (hne : d.isEmpty = false) : numG s = if (itoaF (sgnV s d) == s) = true then sgnV s d else 1000 := by
 unfold numG numW
 rw [h, hf, hne]
 simp only [Bool.not_false, Bool.true_and]
 split <;> rfl
theorem lss48 (b : UInt8) (h : isDig b = true) : decide (((b.toNat : Nat) : Int) < 48) = false ∧ decide (((b.toNat : Nat) : Int) > 57) = false := by
 have := dig_bds h
 simp only [decide_eq_false_iff_not]
 omega
theorem lss48n (b : UInt8) (h : isDig b = false) : decide (((b.toNat : Nat) : Int) < 48) = true ∨ (decide (((b.toNat : Nat) : Int) < 48) = false ∧ decide (((b.toNat : Nat) : Int) > 57) = true) := by
 unfold isDig at h
 rw [Bool.and_eq_false_iff] at h
 simp only [decide_eq_false_iff_not, decide_eq_true_eq] at h ⊢
 omega
set_option maxHeartbeats 4000000 in
theorem F186 : IntrFn Tryz.prog 186 (pureFn sp186) := by
 refine pure_fn (X := dX c144) c144_sound p186 ?_
 intro args v h
 unfold sp186 at h
 split at h
 ·rename_i s
  split at h
  ·rename_i hs
   have h := Option.some.inj h
   subst h
   cases s with
   | nil =>
    have hv : numG [] = 1000 := rfl
    rw [hv]
    have hd0 : decide (((0 : Nat) : Int) > 0) = false := rfl
    have he0 : (((0 : Nat) : Int) == 0) = true := rfl
    refine ClR.walk (c := _) rfl Tryz.func186 rfl (by kernel_rfl) rfl isRet_fail ?_
    simp only [entryEnv, Nat.reduceAdd, emptyHp]
    repeat' (first | refine goS ?_ | refine go2 (fun hh => ?_) (fun hh => ?_) | fail)
    all_goals (simp only [resV_def (X := dX c144) Tryz.func186, Tryz.results186]; first | exact J5 | refine J6 ?_)
   | cons c r =>
    have hgt : decide ((((c :: r).length : Nat) : Int) > 0) = true := by simp only [decide_eq_true_eq, List.length_cons]; omega
    have hi0 : idxV (.int .i64 0) (c :: r).length = some 0 := idx_j (l := c :: r) (j := 0) (by simp)
    have hs0 : (c :: r)[0]? = some c := rfl
    by_cases hc : c = 45
    ·subst hc
     have heq : ((((45 : UInt8).toNat : Nat) : Int) == 45) = true := rfl
     have hd0 : digsOf (45 :: r) = r := rfl
     have hlen : (45 :: r).length = 1 + r.length := by simp; omega
     have hget : ∀ k, k < r.length → (45 :: r)[1 + k]? = r[k]? := fun k _ => by rw [Nat.add_comm]; rfl
     generalize (45 : UInt8) = c at *
     generalize hsg : c :: r = s at *
     generalize r = d at *
     clear hsg
     have hw2 : IntKind.i64.wrap (1 + 2) = 3 := by decide
     by_cases hd1 : d = []
     ·subst hd1
      have hv := numG_nil hd0
      have he : ((s.length : Int) == 1) = true := by rw [beq_iff_eq]; rw [List.length_nil] at hlen; omega
      rw [hv]
      clear hv hd0 hget hlen
      refine ClR.walk (c := _) rfl Tryz.func186 rfl (by kernel_rfl) rfl isRet_fail ?_
      simp only [entryEnv, Nat.reduceAdd, emptyHp]
      repeat' (first | refine goS ?_ | refine go2 (fun hh => ?_) (fun hh => ?_) | fail)
      all_goals (simp only [resV_def (X := dX c144) Tryz.func186, Tryz.results186]; first | exact J5 | refine J6 ?_)
     ·have hdp : 0 < d.length := List.length_pos_iff.2 hd1
      have he : ((s.length : Int) == 1) = false := by rw [beq_eq_false_iff_ne]; omega
      by_cases hd2 : d.length ≤ 2
      ·have hg2 : decide ((s.length : Int) > 3) = false := by simp only [decide_eq_false_iff_not]; omega
       have HD0 := Lib.hid hd0
       have HLEN := Lib.hid hlen
       have HGET := Lib.hid hget
       have HD1 := Lib.hid hd1
       have HD2 := Lib.hid hd2
       clear hd0 hlen hget hd1 hd2 hdp
       refine ClR.walk (c := _) rfl Tryz.func186 rfl (by kernel_rfl) rfl isRet_fail ?_
       simp only [entryEnv, Nat.reduceAdd, emptyHp]
       repeat' (first | refine goS ?_ | refine go2 (fun hh => ?_) (fun hh => ?_) | fail)
       clear hgt hi0 hs0 heq hw2 he hg2
       refine W.loopN d.length (fun k F => ∃ e, F = Fr.mk 186 false e .nil ⟨0, .nil⟩ [] none ∧ (d.take k).all isDig = true ∧ k ≤ d.length ∧ e.get 0 = some (.str s) ∧ e.get 3 = some (.int .i64 ↑(valD (d.take k))) ∧ e.get 4 = some (.int .i64 1) ∧ e.get 5 = some (.int .i64 ↑(1 + k))) ?_ ?_
       ·refine ⟨_, rfl, rfl, Nat.zero_le _, ?_, ?_, ?_, ?_⟩ <;> first | exact Z2 | simp [valD, go_sem, *, Nat.reduceLT, Int.reduceEq, Int.reduceBEq, Int.reduceLE, Int.reduceLT, Nat.reduceAdd, Nat.reduceBEq, Nat.reduceEqDiff, reduceIte, Nat.reduceLeDiff, Nat.reduceMul, Nat.reduceSub, reduceCtorEq]
       rintro k F ⟨e, rfl, hall, hk, h0, h3, h4, h5⟩
       have HALL := Lib.hid hall
       clear hall
       by_cases hlt : k < d.length
       ·obtain ⟨b, hb⟩ := get_some hlt
        have hsb : s[1 + k]? = some b := by rw [HGET.out k hlt]; exact hb
        have hlk : decide (((1 + k : Nat) : Int) < (s.length : Int)) = true := by have := HLEN.out; simp only [decide_eq_true_eq]; omega
        have hij := idx_j (l := s) (j := 1 + k) (by have := HLEN.out; omega)
        have hw : IntKind.i64.wrap (((1 + k : Nat) : Int) + 1) = ((1 + (k + 1) : Nat) : Int) := by have := HD2.out; rw [wrap_small (by omega) (by omega)]; omega
        have HB := Lib.hid hb
        have HLT := Lib.hid hlt
        clear hb hlt
        by_cases hbd : isDig b = true
        ·obtain ⟨q1, q2⟩ := lss48 b hbd
         have hbb := dig_bds hbd
         have hvb : valD (d.take k) ≤ 9 := by
          have h1 : (d.take k).length ≤ 1 := by rw [List.length_take]; have := HD2.out; have := HLT.out; omega
          have h2 := HALL.out
          match d.take k, h1, h2 with
          | [], _, _ => decide
          | [x], _, h2 =>
           simp [isDig] at h2
           simp [valD]
           omega
          | _ :: _ :: _, h1, _ => simp at h1
         have ws : IntKind.u8.wrap ((b.toNat : Int) - 48) = ((b.toNat - 48 : Nat) : Int) := by
          rw [show (b.toNat : Int) - 48 = ((b.toNat - 48 : Nat) : Int) by omega]
          exact u8_wrap (by omega)
         have wc : IntKind.i64.wrap ((b.toNat - 48 : Nat) : Int) = ((b.toNat - 48 : Nat) : Int) := wrap_small (by omega) (by omega)
         have wm : IntKind.i64.wrap (10 * ((valD (d.take k) : Nat) : Int)) = 10 * ((valD (d.take k) : Nat) : Int) := wrap_small (by omega) (by omega)
         have wn : IntKind.i64.wrap (10 * ((valD (d.take k) : Nat) : Int) + ((b.toNat - 48 : Nat) : Int)) = ((valD (d.take (k + 1)) : Nat) : Int) := by
          rw [val_next HB.out, wrap_small (by omega) (by omega)]
          omega
         have HBD := Lib.hid hbd
         clear hbd hbb hvb
         generalize valD (d.take (k + 1)) = vn at *
         generalize valD (d.take k) = vk at *
         generalize ((b.toNat - 48 : Nat) : Int) = bs at *
         repeat' (first | refine goS ?_ | refine go2 (fun hh => ?_) (fun hh => ?_) | fail)
         refine ⟨HLT.out, _, rfl, ?_, HLT.out, ?_, ?_, ?_, ?_⟩
         ·rw [take_next HB.out, List.all_append, HALL.out]
          simp [HBD.out]
         all_goals exact Z2
        ·have hbd : isDig b = false := by simpa using hbd
         have hv := numG_no (s := s) (by
          rw [HD0.out]
          unfold formD
          rw [Bool.and_eq_false_iff]
          left
          rw [List.all_eq_false]
          exact ⟨b, List.mem_of_getElem? HB.out, by rw [hbd]; decide⟩)
         rw [hv]
         rcases lss48n b hbd with q1 | ⟨q1, q2⟩
         all_goals (
          clear hv hbd
          repeat' (first | refine goS ?_ | refine go2 (fun hh => ?_) (fun hh => ?_) | fail)
          all_goals (simp only [resV_def (X := dX c144) Tryz.func186, Tryz.results186]; first | exact J5 | refine J6 ?_))
       ·have hkl : d.take k = d := List.take_of_length_le (by omega)
        rw [hkl] at h3
        have hall := HALL.out
        rw [hkl] at hall
        have hf : formD d = true := by
         unfold formD
         rw [hall]
         simpa using HD2.out
        have hv9 := val_form hf
        have hem : d.isEmpty = false := by
         have := HD1.out
         cases d with
         | nil => exact absurd rfl this
         | cons a b => rfl
        have hv := numG_yes HD0.out hf hem
        obtain rfl : k = d.length := by omega
        have hlk : decide (((1 + d.length : Nat) : Int) < (s.length : Int)) = false := by have := HLEN.out; simp only [decide_eq_false_iff_not]; omega
        have hsg : sgnV s d = -((valD d : Nat) : Int) := by
         unfold sgnV
         rw [if_pos (by have := HLEN.out; omega)]
        have hsn : smallI (sgnV s d) = true := by
         rw [hsg]
         unfold smallI
         simp only [Bool.and_eq_true, decide_eq_true_eq]
         omega
        have k144 := fun h => K144 (X := dX c144) rfl (sgnV s d) hsn h
        rw [hsg] at k144 hv
        have hng : IntKind.i64.wrap (-((valD d : Nat) : Int)) = -((valD d : Nat) : Int) := wrap_small (by omega) (by omega)
        rw [hv]
        have HV := Lib.hid hv
        clear hv hsn hsg hem hf hall hkl hv9 hk hlt
        generalize hq : (itoaF (-((valD d : Nat) : Int)) == s) = q at *
        have hq2 : (itoaF (-((valD d : Nat) : Int)) != s) = !q := by rw [← hq]; rfl
        clear hq
        generalize ((valD d : Nat) : Int) = vd at *
        cases q with
        | true =>
         have hq3 : (itoaF (-vd) != s) = false := hq2
         clear hq2
         simp only [if_true]
         repeat' (first | refine goS ?_ | (apply U6; exact Z1; exact Z1; (focus (simp only [List.nil_append, List.append_nil]; first | exact k144 _)); simp only [pM, pN, rR, rP]) | refine go2 (fun hh => ?_) (fun hh => ?_) | fail)
         all_goals (simp only [resV_def (X := dX c144) Tryz.func186, Tryz.results186]; first | exact J5 | refine J6 ?_)
        | false =>
         have hq3 : (itoaF (-vd) != s) = true := hq2
         clear hq2
         simp only [Bool.false_eq_true, if_false]
         repeat' (first | refine goS ?_ | (apply U6; exact Z1; exact Z1; (focus (simp only [List.nil_append, List.append_nil]; first | exact k144 _)); simp only [pM, pN, rR, rP]) | refine go2 (fun hh => ?_) (fun hh => ?_) | fail)
         all_goals (simp only [resV_def (X := dX c144) Tryz.func186, Tryz.results186]; first | exact J5 | refine J6 ?_)
      ·have hg2 : decide ((s.length : Int) > 3) = true := by simp only [decide_eq_true_eq]; omega
       have hv := numG_no (s := s) (by
        rw [hd0]
        unfold formD
        rw [Bool.and_eq_false_iff]
        right
        simpa using hd2)
       rw [hv]
       clear hv hd0 hget hlen hd1 hd2 hdp
       refine ClR.walk (c := _) rfl Tryz.func186 rfl (by kernel_rfl) rfl isRet_fail ?_
       simp only [entryEnv, Nat.reduceAdd, emptyHp]
       repeat' (first | refine goS ?_ | refine go2 (fun hh => ?_) (fun hh => ?_) | fail)
       all_goals (simp only [resV_def (X := dX c144) Tryz.func186, Tryz.results186]; first | exact J5 | refine J6 ?_)
    ·have heq : (((c.toNat : Nat) : Int) == 45) = false := by
      rw [beq_eq_false_iff_ne]
      intro q
      exact hc (UInt8.toNat_inj.1 (by have e : (45 : UInt8).toNat = 45 := rfl; omega))
     have hd0 : digsOf (c :: r) = c :: r := by simp [digsOf, hc]
     have hlen : (c :: r).length = 0 + (c :: r).length := by omega
     have hget : ∀ k, k < (c :: r).length → (c :: r)[0 + k]? = (c :: r)[k]? := fun k _ => by rw [Nat.zero_add]
     generalize hsd : c :: r = s at *
     obtain ⟨d, hds⟩ : ∃ d, d = s := ⟨s, rfl⟩
     replace hd0 : digsOf s = d := by rw [hds]; exact hd0
     replace hlen : s.length = 0 + d.length := by rw [hds, Nat.zero_add]
     replace hget : ∀ k, k < d.length → s[0 + k]? = d[k]? := fun k hk => by rw [hds, Nat.zero_add]
     clear hds hsd hc
     have hw2 : IntKind.i64.wrap (0 + 2) = 2 := by decide
     by_cases hd1 : d = []
     ·subst hd1
      have hv := numG_nil hd0
      have he : ((s.length : Int) == 0) = true := by rw [beq_iff_eq]; rw [List.length_nil] at hlen; omega
      rw [hv]
      clear hv hd0 hget hlen
      refine ClR.walk (c := _) rfl Tryz.func186 rfl (by kernel_rfl) rfl isRet_fail ?_
      simp only [entryEnv, Nat.reduceAdd, emptyHp]
      repeat' (first | refine goS ?_ | refine go2 (fun hh => ?_) (fun hh => ?_) | fail)
      all_goals (simp only [resV_def (X := dX c144) Tryz.func186, Tryz.results186]; first | exact J5 | refine J6 ?_)
     ·have hdp : 0 < d.length := List.length_pos_iff.2 hd1
      have he : ((s.length : Int) == 0) = false := by rw [beq_eq_false_iff_ne]; omega
      by_cases hd2 : d.length ≤ 2
      ·have hg2 : decide ((s.length : Int) > 2) = false := by simp only [decide_eq_false_iff_not]; omega
       have HD0 := Lib.hid hd0
       have HLEN := Lib.hid hlen
       have HGET := Lib.hid hget
       have HD1 := Lib.hid hd1
       have HD2 := Lib.hid hd2
       clear hd0 hlen hget hd1 hd2 hdp
       refine ClR.walk (c := _) rfl Tryz.func186 rfl (by kernel_rfl) rfl isRet_fail ?_
       simp only [entryEnv, Nat.reduceAdd, emptyHp]
       repeat' (first | refine goS ?_ | refine go2 (fun hh => ?_) (fun hh => ?_) | fail)
       clear hgt hi0 hs0 heq hw2 he hg2
       refine W.loopN d.length (fun k F => ∃ e, F = Fr.mk 186 false e .nil ⟨0, .nil⟩ [] none ∧ (d.take k).all isDig = true ∧ k ≤ d.length ∧ e.get 0 = some (.str s) ∧ e.get 3 = some (.int .i64 ↑(valD (d.take k))) ∧ e.get 4 = some (.int .i64 0) ∧ e.get 5 = some (.int .i64 ↑(0 + k))) ?_ ?_
       ·refine ⟨_, rfl, rfl, Nat.zero_le _, ?_, ?_, ?_, ?_⟩ <;> first | exact Z2 | simp [valD, go_sem, *, Nat.reduceLT, Int.reduceEq, Int.reduceBEq, Int.reduceLE, Int.reduceLT, Nat.reduceAdd, Nat.reduceBEq, Nat.reduceEqDiff, reduceIte, Nat.reduceLeDiff, Nat.reduceMul, Nat.reduceSub, reduceCtorEq]
       rintro k F ⟨e, rfl, hall, hk, h0, h3, h4, h5⟩
       have HALL := Lib.hid hall
       clear hall
       by_cases hlt : k < d.length
       ·obtain ⟨b, hb⟩ := get_some hlt
        have hsb : s[0 + k]? = some b := by rw [HGET.out k hlt]; exact hb
        have hlk : decide (((0 + k : Nat) : Int) < (s.length : Int)) = true := by have := HLEN.out; simp only [decide_eq_true_eq]; omega
        have hij := idx_j (l := s) (j := 0 + k) (by have := HLEN.out; omega)
        have hw : IntKind.i64.wrap (((0 + k : Nat) : Int) + 1) = ((0 + (k + 1) : Nat) : Int) := by have := HD2.out; rw [wrap_small (by omega) (by omega)]; omega
        have HB := Lib.hid hb
        have HLT := Lib.hid hlt
        clear hb hlt
        by_cases hbd : isDig b = true
        ·obtain ⟨q1, q2⟩ := lss48 b hbd
         have hbb := dig_bds hbd
         have hvb : valD (d.take k) ≤ 9 := by
          have h1 : (d.take k).length ≤ 1 := by rw [List.length_take]; have := HD2.out; have := HLT.out; omega
          have h2 := HALL.out
          match d.take k, h1, h2 with
          | [], _, _ => decide
          | [x], _, h2 =>
           simp [isDig] at h2
           simp [valD]
           omega
          | _ :: _ :: _, h1, _ => simp at h1
         have ws : IntKind.u8.wrap ((b.toNat : Int) - 48) = ((b.toNat - 48 : Nat) : Int) := by
          rw [show (b.toNat : Int) - 48 = ((b.toNat - 48 : Nat) : Int) by omega]
          exact u8_wrap (by omega)
         have wc : IntKind.i64.wrap ((b.toNat - 48 : Nat) : Int) = ((b.toNat - 48 : Nat) : Int) := wrap_small (by omega) (by omega)
         have wm : IntKind.i64.wrap (10 * ((valD (d.take k) : Nat) : Int)) = 10 * ((valD (d.take k) : Nat) : Int) := wrap_small (by omega) (by omega)
         have wn : IntKind.i64.wrap (10 * ((valD (d.take k) : Nat) : Int) + ((b.toNat - 48 : Nat) : Int)) = ((valD (d.take (k + 1)) : Nat) : Int) := by
          rw [val_next HB.out, wrap_small (by omega) (by omega)]
          omega
         have HBD := Lib.hid hbd
         clear hbd hbb hvb
         generalize valD (d.take (k + 1)) = vn at *
         generalize valD (d.take k) = vk at *
         generalize ((b.toNat - 48 : Nat) : Int) = bs at *
         repeat' (first | refine goS ?_ | refine go2 (fun hh => ?_) (fun hh => ?_) | fail)
         refine ⟨HLT.out, _, rfl, ?_, HLT.out, ?_, ?_, ?_, ?_⟩
         ·rw [take_next HB.out, List.all_append, HALL.out]
          simp [HBD.out]
         all_goals exact Z2
        ·have hbd : isDig b = false := by simpa using hbd
         have hv := numG_no (s := s) (by
          rw [HD0.out]
          unfold formD
          rw [Bool.and_eq_false_iff]
          left
          rw [List.all_eq_false]
          exact ⟨b, List.mem_of_getElem? HB.out, by rw [hbd]; decide⟩)
         rw [hv]
         rcases lss48n b hbd with q1 | ⟨q1, q2⟩
         all_goals (
          clear hv hbd
          repeat' (first | refine goS ?_ | refine go2 (fun hh => ?_) (fun hh => ?_) | fail)
          all_goals (simp only [resV_def (X := dX c144) Tryz.func186, Tryz.results186]; first | exact J5 | refine J6 ?_))
       ·have hkl : d.take k = d := List.take_of_length_le (by omega)
        rw [hkl] at h3
        have hall := HALL.out
        rw [hkl] at hall
        have hf : formD d = true := by
         unfold formD
         rw [hall]
         simpa using HD2.out
        have hv9 := val_form hf
        have hem : d.isEmpty = false := by
         have := HD1.out
         cases d with
         | nil => exact absurd rfl this
         | cons a b => rfl
        have hv := numG_yes HD0.out hf hem
        obtain rfl : k = d.length := by omega
        have hlk : decide (((0 + d.length : Nat) : Int) < (s.length : Int)) = false := by have := HLEN.out; simp only [decide_eq_false_iff_not]; omega
        have hsg : sgnV s d = ((valD d : Nat) : Int) := by
         unfold sgnV
         rw [if_neg (by have := HLEN.out; omega)]
        have hsn : smallI (sgnV s d) = true := by
         rw [hsg]
         unfold smallI
         simp only [Bool.and_eq_true, decide_eq_true_eq]
         omega
        have k144 := fun h => K144 (X := dX c144) rfl (sgnV s d) hsn h
        rw [hsg] at k144 hv
        have hng : IntKind.i64.wrap (-((valD d : Nat) : Int)) = -((valD d : Nat) : Int) := wrap_small (by omega) (by omega)
        rw [hv]
        have HV := Lib.hid hv
        clear hv hsn hsg hem hf hall hkl hv9 hk hlt
        generalize hq : (itoaF (((valD d : Nat) : Int)) == s) = q at *
        have hq2 : (itoaF (((valD d : Nat) : Int)) != s) = !q := by rw [← hq]; rfl
        clear hq
        generalize ((valD d : Nat) : Int) = vd at *
        cases q with
        | true =>
         have hq3 : (itoaF (vd) != s) = false := hq2
         clear hq2
         simp only [if_true]
         repeat' (first | refine goS ?_ | (apply U6; exact Z1; exact Z1; (focus (simp only [List.nil_append, List.append_nil]; first | exact k144 _)); simp only [pM, pN, rR, rP]) | refine go2 (fun hh => ?_) (fun hh => ?_) | fail)
         all_goals (simp only [resV_def (X := dX c144) Tryz.func186, Tryz.results186]; first | exact J5 | refine J6 ?_)
        | false =>
         have hq3 : (itoaF (vd) != s) = true := hq2
         clear hq2
         simp only [Bool.false_eq_true, if_false]
         repeat' (first | refine goS ?_ | (apply U6; exact Z1; exact Z1; (focus (simp only [List.nil_append, List.append_nil]; first | exact k144 _)); simp only [pM, pN, rR, rP]) | refine go2 (fun hh => ?_) (fun hh => ?_) | fail)
         all_goals (simp only [resV_def (X := dX c144) Tryz.func186, Tryz.results186]; first | exact J5 | refine J6 ?_)
      ·have hg2 : decide ((s.length : Int) > 2) = true := by simp only [decide_eq_true_eq]; omega
       have hv := numG_no (s := s) (by
        rw [hd0]
        unfold formD
        rw [Bool.and_eq_false_iff]
        right
        simpa using hd2)
       rw [hv]
       clear hv hd0 hget hlen hd1 hd2 hdp
       refine ClR.walk (c := _) rfl Tryz.func186 rfl (by kernel_rfl) rfl isRet_fail ?_
       simp only [entryEnv, Nat.reduceAdd, emptyHp]
       repeat' (first | refine goS ?_ | refine go2 (fun hh => ?_) (fun hh => ?_) | fail)
       all_goals (simp only [resV_def (X := dX c144) Tryz.func186, Tryz.results186]; first | exact J5 | refine J6 ?_)
  ·cases h
 ·cases h
theorem K186 {X : Ctx} (hX : X.intr 186 = some (pureFn sp186)) (s : List UInt8) (hs : s.length ≤ 1000) (h : Heap) : Cl X 186 [.str s] h (.ret (.int .i64 (numG s)) h none) :=
 Cl.intr hX (by simp [pureFn, AV.pur, AV.purL, sp186, hs])
end Go.AM
namespace Go.AM
open Go Go.Proofs
variable [Keep]
attribute [local irreducible] W WO WO1 WD WQ WT thenQ blockQ endR isRet retK Cl ClR
theorem numG_is {s : List UInt8} : (numG s = 1000 ∧ numW s = none) ∨ ∃ n, numG s = n ∧ numW s = some n ∧ (n == 1000) = false := by
 unfold numG
 cases h : numW s with
 | none => exact .inl ⟨rfl, rfl⟩
 | some n =>
  refine .inr ⟨n, rfl, rfl, ?_⟩
  have := (num_is h).1
  unfold smallN at this
  simp only [Bool.and_eq_true, decide_eq_true_eq] at this
  rw [beq_eq_false_iff_ne]
  omega
def toldV (s w : List UInt8) (many : Nat) : List Int := (numsW s w many).getD []
def sp146 : List AV → Option AV
 | [.str s, .str w, .int .i64 many] => if (decide (s.length ≤ 1000) && decide (0 ≤ many) && decide (many ≤ 4)) = true then some (slN (intsE (toldV s w many.toNat))) else none
 | _ => none
theorem slN_ints (l : List Int) : (slN (intsE l)).pur = true := by
 cases l with
 | nil => rfl
 | cons a r =>
  show AV.purL _ = true
  rw [purL_mem]
  intro x hx
  obtain ⟨y, _, rfl⟩ := List.mem_map.1 hx
  rfl
theorem p146 : ∀ args v, sp146 args = some v → v.pur = true := by
 intro args v h
 unfold sp146 at h
 split at h
 ·split at h
  ·cases h; exact slN_ints _
  ·cases h
 ·cases h
noncomputable def cXL : Itr
 | 145 => some (pureFn sp145)
 | 186 => some (pureFn sp186)
 | _ => none
theorem cXL_sound : Sound (dX cXL) := dX_sound (fun f g h => by
 unfold cXL at h
 split at h
 ·cases h; exact F145
 ·cases h; exact F186
 ·cases h)
attribute [local irreducible] numsW numW numG
set_option maxHeartbeats 4000000 in
theorem F146 : IntrFn Tryz.prog 146 (pureFn sp146) := by
 refine pure_fn (X := dX cXL) cXL_sound p146 ?_
 intro args v h
 unfold sp146 at h
 split at h
 ·rename_i s w many0
  split at h
  ·rename_i hg
   have h := Option.some.inj h
   subst h
   simp only [Bool.and_eq_true, decide_eq_true_eq] at hg
   obtain ⟨⟨hs, hm0⟩, hm4⟩ := hg
   obtain ⟨many, rfl⟩ : ∃ m : Nat, many0 = (m : Int) := ⟨many0.toNat, by omega⟩
   rw [Int.toNat_natCast]
   have k145 := fun h => K145 (X := dX cXL) rfl s 32 (n := 32) rfl hs h
   obtain ⟨hl1, hl2⟩ := spL_len 32 s
   have hyes := numsW_yes (s := s) (w := w) (many := many)
   have hno := numsW_no (s := s) (w := w) (many := many)
   have hne := spL_ne 32 s
   generalize spL 32 s = ws at *
   obtain ⟨w0, rest, rfl⟩ : ∃ w0 rest, ws = w0 :: rest := by
    cases ws with
    | nil => exact absurd rfl hne
    | cons a b => exact ⟨a, b, rfl⟩
   have hsl : slN ((w0 :: rest).map AV.str) = .vslice ((w0 :: rest).map AV.str) := rfl
   rw [hsl] at k145
   have ha := strs_sl (w0 :: rest) (by unfold maxL; omega)
   have hlen := sl_len ha
   have hout := sl_out ha
   have hix0 : ∀ H, indexAddrV Tryz.prog H 208 (.vslice ((w0 :: rest).map AV.str)) (.int .i64 0) = some (.vptr [.str w0]) := fun H => strs_idx ha (k := 0) rfl H
   generalize AV.vslice ((w0 :: rest).map AV.str) = va at *
   have hwm : IntKind.i64.wrap ((many : Int) + 1) = ((many + 1 : Nat) : Int) := by rw [wrap_small (by omega) (by omega)]; omega
   have HA := Lib.hid ha
   have HYES := Lib.hid hyes
   have HNO := Lib.hid hno
   have HL2 := Lib.hid hl2
   clear ha hyes hno hne hl2 hsl hm0
   by_cases hlw : (w0 :: rest).length = many + 1
   ·have heq : (((w0 :: rest).length : Int) != ((many + 1 : Nat) : Int)) = false := by simp only [bne_eq_false_iff_eq]; omega
    by_cases hw0 : w0 = w
    ·subst hw0
     have hq : (w0 != w0) = false := by simp
     have hnm : numsW s w0 many = mapO numW rest := HYES.out ⟨hlw, rfl⟩
     have hrl : rest.length = many := by simpa using hlw
     have HNM := Lib.hid hnm
     have HRL := Lib.hid hrl
     have HLW := Lib.hid hlw
     generalize hLL : (w0 :: rest).length = L at *
     have HLL := Lib.hid hLL
     clear hnm hrl hlw hl1 hLL
     refine ClR.walk (c := _) rfl Tryz.func146 rfl (by kernel_rfl) rfl isRet_fail ?_
     simp only [entryEnv, Nat.reduceAdd, emptyHp]
     repeat' (first | refine goS ?_ | (apply U6; exact Z1; exact Z1; (focus (simp only [List.nil_append, List.append_nil]; first | exact k145 _)); simp only [pM, pN, rR, rP]) | refine go2 (fun hh => ?_) (fun hh => ?_) | fail)
     clear k145 hix0 hwm heq hq
     refine W.loopN rest.length (fun k F => ∃ e hp u acc, F = Fr.mk 146 false e .nil hp [] none ∧ mapO numW (rest.take k) = some acc ∧ Blt hp u 1 (intsE acc) ∧ acc.length = k ∧
      e.get 7 = some va ∧ e.get 8 = some u ∧ e.get 9 = some (.int .i64 ↑(k + 1)) ∧ k ≤ rest.length) ?_ ?_
     ·refine ⟨_, _, _, [], rfl, rfl, Blt.nil, rfl, ?_, ?_, ?_, Nat.zero_le _⟩ <;> first | exact Z2 | simp [go_sem, *]
     rintro k F ⟨e, hp, u, acc, rfl, hmo, hB, hal, h7, h8, h9, hk⟩
     have hbo := hB.out
     have HMO := Lib.hid hmo
     have HAL := Lib.hid hal
     clear hmo hal
     have hLr : L = rest.length + 1 := by rw [← HLL.out]; rfl
     have HLR := Lib.hid hLr
     clear hLr
     by_cases hlt : k < rest.length
     ·obtain ⟨p, hp'⟩ := get_some hlt
      have hix := fun H => strs_idx HA.out (k := k + 1) (s := p) (by simpa using hp') H
      have hd : decide (((k + 1 : Nat) : Int) < (L : Int)) = true := by have := HLR.out; simp only [decide_eq_true_eq]; omega
      have hw : IntKind.i64.wrap (((k + 1 : Nat) : Int) + 1) = ((k + 1 + 1 : Nat) : Int) := by have := HRL.out; rw [wrap_small (by omega) (by omega)]; omega
      have hpl := HL2.out p (List.mem_cons_of_mem _ (List.mem_of_getElem? hp'))
      have k186 := fun h => K186 (X := dX cXL) rfl p (by omega) h
      have HP := Lib.hid hp'
      have HLT := Lib.hid hlt
      clear hp' hpl hlt
      rcases numG_is (s := p) with ⟨hv, hnw⟩ | ⟨n, hv, hnw, hn0⟩
      ·rw [hv] at k186
       have hq : ((1000 : Int) == 1000) = true := rfl
       have hnn : toldV s w0 many = [] := by
        unfold toldV
        rw [HNM.out, mapO_none (List.mem_of_getElem? HP.out) hnw]
        rfl
       rw [hnn]
       clear hv hnw hnn
       repeat' (first | refine goS ?_ | (apply U6; exact Z1; exact Z1; (focus (simp only [List.nil_append, List.append_nil]; first | exact k186 _)); simp only [pM, pN, rR, rP]) | refine go2 (fun hh => ?_) (fun hh => ?_) | fail)
       all_goals (simp only [resV_def (X := dX cXL) Tryz.func146, Tryz.results146]; first | exact J5 | refine J6 ?_)
       all_goals rfl
      ·rw [hv] at k186
       have hnx := mapO_next HP.out HMO.out hnw
       have HNX := Lib.hid hnx
       clear hnx hnw hv
       have hll : (intsE acc).length + 1 ≤ most := by rw [intsE_len]; have := HAL.out; have := HRL.out; have := HLT.out; unfold most; omega
       repeat' (first | (apply WO1.append (t := 39) (u := 39) (e := 3) (e' := 3) (sz := 1) (tl := []) (hb := hB); exact Z1; exact rfl; exact Z2; exact Z2; exact Z2; (focus (exact ty_row39)); exact Z1; (focus (intro v hv; simp at hv; subst hv; rfl)); (focus (simp only [List.length_cons, List.length_nil]; exact hll)); (focus (simp)); (intro v' h' hB' ho' hX'; have hcc' := hB'.cells; have htt' := hB'.tup; simp only [AV.cells] at hcc'; simp only [isTuple] at htt'; simp only [pM, pN])) | refine go1 ?_ | (apply U6; exact Z1; exact Z1; (focus (simp only [List.nil_append, List.append_nil]; first | exact k186 _)); simp only [pM, pN, rR, rP]) | refine go2 (fun hh => ?_) (fun hh => ?_) | fail)
       refine ⟨HLT.out, _, _, v', acc ++ [n], rfl, HNX.out, ?_, ?_, ?_, ?_, ?_, HLT.out⟩
       ·rw [intsE_app]; exact hB'
       ·have := HAL.out; simp [this]
       all_goals exact Z2
     ·have hd : decide (((k + 1 : Nat) : Int) < (L : Int)) = false := by have := HLR.out; simp only [decide_eq_false_iff_not]; omega
      have hkl : rest.take k = rest := List.take_of_length_le (by omega)
      have hnn : toldV s w0 many = acc := by
       unfold toldV
       rw [HNM.out]
       have := HMO.out
       rw [hkl] at this
       rw [this]
       rfl
      rw [hnn]
      obtain ⟨h', hz, hz2, hz1⟩ := hB.freeze
      clear hnn hkl
      repeat' (first | refine goS ?_ | refine go2 (fun hh => ?_) (fun hh => ?_) | fail)
      all_goals (simp only [resV_def (X := dX cXL) Tryz.func146, Tryz.results146]; first | exact J5 | refine J6 ?_)
      all_goals rfl
    ·have hq : (w0 != w) = true := by simpa using hw0
     have hnm : toldV s w many = [] := by unfold toldV; rw [HNO.out (fun q => hw0 q.2)]; rfl
     rw [hnm]
     generalize (w0 :: rest).length = L at *
     clear hnm hlw hl1 hw0
     refine ClR.walk (c := _) rfl Tryz.func146 rfl (by kernel_rfl) rfl isRet_fail ?_
     simp only [entryEnv, Nat.reduceAdd, emptyHp]
     repeat' (first | refine goS ?_ | (apply U6; exact Z1; exact Z1; (focus (simp only [List.nil_append, List.append_nil]; first | exact k145 _)); simp only [pM, pN, rR, rP]) | refine go2 (fun hh => ?_) (fun hh => ?_) | fail)
     all_goals (simp only [resV_def (X := dX cXL) Tryz.func146, Tryz.results146]; first | exact J5 | refine J6 ?_)
     all_goals rfl
   ·have heq : (((w0 :: rest).length : Int) != ((many + 1 : Nat) : Int)) = true := by simp only [bne_iff_ne, ne_eq]; omega
    have hnm : toldV s w many = [] := by unfold toldV; rw [HNO.out (fun q => hlw q.1)]; rfl
    rw [hnm]
    generalize (w0 :: rest).length = L at *
    clear hnm hlw hl1
    refine ClR.walk (c := _) rfl Tryz.func146 rfl (by kernel_rfl) rfl isRet_fail ?_
    simp only [entryEnv, Nat.reduceAdd, emptyHp]
    repeat' (first | refine goS ?_ | (apply U6; exact Z1; exact Z1; (focus (simp only [List.nil_append, List.append_nil]; first | exact k145 _)); simp only [pM, pN, rR, rP]) | refine go2 (fun hh => ?_) (fun hh => ?_) | fail)
    all_goals (simp only [resV_def (X := dX cXL) Tryz.func146, Tryz.results146]; first | exact J5 | refine J6 ?_)
    all_goals rfl
  ·cases h
 ·cases h
theorem K146 {X : Ctx} (hX : X.intr 146 = some (pureFn sp146)) (s w : List UInt8) (many : Nat) {m : Int} (he : m = (many : Int)) (hs : s.length ≤ 1000) (hm : many ≤ 4) (h : Heap) : Cl X 146 [.str s, .str w, .int .i64 m] h (.ret (slN (intsE (toldV s w many))) h none) := by
 subst he
 have : (decide (s.length ≤ 1000) && decide (0 ≤ (many : Int)) && decide ((many : Int) ≤ 4)) = true := by
  simp only [Bool.and_eq_true, decide_eq_true_eq]; omega
 exact Cl.intr hX (by simp only [pureFn, AV.pur, AV.purL, Bool.and_self, if_true, sp146, this, Int.toNat_natCast])
end Go.AM
namespace Go.AM
open Go Go.Proofs
variable [Keep]
attribute [local irreducible] W WO WO1 WD WQ WT thenQ blockQ endR isRet retK Cl ClR
theorem neq95 (a b c d : Int) : binV Tryz.prog .neq 95 false (.agg [.int .i64 a, .int .i64 b, .int .i64 c, .int .i64 d]) (.agg [.int .i64 a, .int .i64 b, .int .i64 c, .int .i64 d]) = some (.bool false) := by
 have h1 : Tryz.prog.eqGuardType Tryz.prog.depth 95 = false := by kernel_rfl
 have h2 : Tryz.prog.stoodInHeld 95 = false := by kernel_rfl
 simp only [binV, eqOp, eqV, h1, Bool.false_eq_true, if_false, eqDepth, eqT, Tryz.underlying95, h2, eqFields]
 simp [eqFields, readT, ty_lay3, readAt, Tryz.underlying3]
theorem eql48s (a b : Int) : binV Tryz.prog .eql 48 false (.agg [.int .i64 a, .int .i64 b]) (.agg [.int .i64 a, .int .i64 b]) = some (.bool true) := by
 have h1 : Tryz.prog.eqGuardType Tryz.prog.depth 48 = false := by kernel_rfl
 have h2 : Tryz.prog.stoodInHeld 48 = false := by kernel_rfl
 simp only [binV, eqOp, eqV, h1, Bool.false_eq_true, if_false, eqDepth, eqT, Tryz.underlying48, h2, eqFields]
 simp [eqFields, readT, ty_lay3, readAt, Tryz.underlying3]
open Classical in
noncomputable def sp85 : List AV → Option AV
 | [.agg [sa, .int .i64 cxl, .int .i64 cxh, .int .i64 cyl, .int .i64 cyh, .int .i64 wxl, .int .i64 wxh, .int .i64 wyl, .int .i64 wyh, ra], .agg [sb, .int .i64 cxl', .int .i64 cxh', .int .i64 cyl', .int .i64 cyh', .int .i64 wxl', .int .i64 wxh', .int .i64 wyl', .int .i64 wyh', rb]] =>
  match slV ptC sa, slV rdgC ra with
  | some st, some rs => if slV ptC sb = some st ∧ slV rdgC rb = some rs ∧ cxl = cxl' ∧ cxh = cxh' ∧ cyl = cyl' ∧ cyh = cyh' ∧ wxl = wxl' ∧ wxh = wxh' ∧ wyl = wyl' ∧ wyh = wyh' ∧ st.length ≤ 1000 ∧ rs.length ≤ 1000 then some (.bool true) else none
  | _, _ => none
 | _ => none
theorem p85 : ∀ args v, sp85 args = some v → v.flat = true := by
 intro args v h
 unfold sp85 at h
 split at h
 ·split at h
  ·split at h
   ·cases h; rfl
   ·cases h
  ·cases h
 ·cases h
noncomputable def c29 : Itr
 | 29 => some (flatFn sp29)
 | _ => none
theorem c29_sound : Sound (dX c29) := dX_sound (fun f g h => by
 unfold c29 at h
 split at h
 ·cases h; exact F29
 ·cases h)
set_option maxHeartbeats 4000000 in
theorem R85 : ∀ args v, sp85 args = some v → ClR (dX c29) 85 args emptyHp (isRet v) := by
 intro args v h
 unfold sp85 at h
 split at h
 ·rename_i sa cxl cxh cyl cyh wxl wxh wyl wyh ra sb cxl' cxh' cyl' cyh' wxl' wxh' wyl' wyh' rb
  split at h
  ·rename_i st rs hl hr
   split at h
   ·rename_i hg
    have h := Option.some.inj h
    subst h
    obtain ⟨hl', hr', rfl, rfl, rfl, rfl, rfl, rfl, rfl, rfl, hs1, hs2⟩ := hg
    have l1 := sl_len hl
    have o1 := sl_out hl
    have l2 := sl_len hr
    have o2 := sl_out hr
    have l3 := sl_len hl'
    have o3 := sl_out hl'
    have l4 := sl_len hr'
    have o4 := sl_out hr'
    obtain ⟨n1, t1⟩ := sl_one hl
    obtain ⟨n2, t2⟩ := sl_one hr
    obtain ⟨n3, t3⟩ := sl_one hl'
    obtain ⟨n4, t4⟩ := sl_one hr'
    have k29 := fun h => K29 (X := dX c29) rfl sa sb st st hl hl' (by omega) (by omega) h
    have hdt : decide (st = st) = true := by simp
    rw [hdt] at k29
    have hnn : (((rs.length : Nat) : Int) != ((rs.length : Nat) : Int)) = false := by simp
    have q1 := neq95
    have q2 := eql48s
    have HR := Lib.hid hr
    have HR2 := Lib.hid hr'
    have HS := Lib.hid hs2
    clear hl hr hl' hr' hdt hs1 hs2
    refine ClR.walk (c := _) rfl Tryz.func85 rfl (by kernel_rfl) rfl isRet_fail ?_
    simp only [entryEnv, Nat.reduceAdd, emptyHp]
    repeat' (first | refine goS ?_ | refine go2 (fun hh => ?_) (fun hh => ?_) | fail)
    refine W.loopN rs.length (fun k F => ∃ e lm, F = Fr.mk 85 false e lm ⟨0, .nil⟩ [] none ∧ lm.get 2 = some (0, [sa, .int .i64 cxl, .int .i64 cxh, .int .i64 cyl, .int .i64 cyh, .int .i64 wxl, .int .i64 wxh, .int .i64 wyl, .int .i64 wyh, ra]) ∧ lm.get 3 = some (0, [sb, .int .i64 cxl, .int .i64 cxh, .int .i64 cyl, .int .i64 cyh, .int .i64 wxl, .int .i64 wxh, .int .i64 wyl, .int .i64 wyh, rb]) ∧ e.get 2 = some (.lptr 2 0 0) ∧ e.get 3 = some (.lptr 3 0 0) ∧ e.get 5 = some (.int .i64 ↑k) ∧ k ≤ rs.length) ?_ ?_
    ·refine ⟨_, _, rfl, ?_, ?_, ?_, ?_, ?_, Nat.zero_le _⟩ <;> first | exact Z2 | simp [go_sem, *]
    rintro k F ⟨e, lm, rfl, g2, g3, h2, h3, h5, hk⟩
    by_cases hlt : k < rs.length
    ·obtain ⟨p, hp'⟩ := get_some hlt
     have hix := fun H => rdg_idx HR.out hp' H
     have hix2 := fun H => rdg_idx HR2.out hp' H
     have hd : decide ((k : Int) < (rs.length : Int)) = true := by simpa using hlt
     have hw := wrap_succ hlt (by have := HS.out; unfold maxL; omega)
     have HLT := Lib.hid hlt
     clear hp' hlt
     repeat' (first | (apply W.drawQ (id := 6) (l1 := [0, 1, 2, 3, 4, 5, 6, 7, 8, 9, 10]) (l2 := []); kernel_rfl; kernel_rfl; kernel_rfl; exact Z4) | refine go1 ?_ | refine go2 (fun hh => ?_) (fun hh => ?_) | fail)
     refine ⟨HLT.out, _, _, rfl, ?_, ?_, ?_, ?_, ?_, HLT.out⟩
     all_goals exact Z2
    ·have hd : decide ((k : Int) < (rs.length : Int)) = false := by simpa using hlt
     clear hlt hk
     repeat' (first | refine goS ?_ | (apply U6; exact Z1; exact Z1; (focus (simp only [List.nil_append, List.append_nil]; first | exact k29 _)); simp only [pM, pN, rR, rP]) | refine go2 (fun hh => ?_) (fun hh => ?_) | fail)
     all_goals (simp only [resV_def (X := dX c29) Tryz.func85, Tryz.results85]; first | exact J5 | refine J6 ?_)
   ·cases h
  ·cases h
 ·cases h
theorem F85 : IntrFn Tryz.prog 85 (flatFn sp85) := flat_fn (X := dX c29) c29_sound p85 R85
def mcV (m : Mc) : AV := .agg [slN (m.st.map ptC.enc), .int .i64 m.cx.lo, .int .i64 m.cx.hi, .int .i64 m.cy.lo, .int .i64 m.cy.hi, .int .i64 m.wx.lo, .int .i64 m.wx.hi, .int .i64 m.wy.lo, .int .i64 m.wy.hi, slN (m.rs.map rdgC.enc)]
def mcA (sa ra : AV) (m : Mc) : AV := .agg [sa, .int .i64 m.cx.lo, .int .i64 m.cx.hi, .int .i64 m.cy.lo, .int .i64 m.cy.hi, .int .i64 m.wx.lo, .int .i64 m.wx.hi, .int .i64 m.wy.lo, .int .i64 m.wy.hi, ra]
theorem slN_sl {α : Type} (c : Cd α) (l : List α) (h : l.length ≤ maxL) : slV c (slN (l.map c.enc)) = some l := by
 have := decL_map c l
 cases l with
 | nil => rfl
 | cons a r =>
  show slV c (.vslice _) = _
  unfold slV
  simp only
  rw [if_pos (by rw [List.length_map]; exact h)]
  exact this
theorem K85 {X : Ctx} (hX : X.intr 85 = some (flatFn sp85)) (sa ra sb rb : AV) (m : Mc) (h1 : slV ptC sa = some m.st) (h2 : slV rdgC ra = some m.rs) (h3 : slV ptC sb = some m.st) (h4 : slV rdgC rb = some m.rs) (h5 : m.st.length ≤ 1000) (h6 : m.rs.length ≤ 1000) (h : Heap) :
  Cl X 85 [mcA sa ra m, mcA sb rb m] h (.ret (.bool true) h none) := by
 have e : sp85 [mcA sa ra m, mcA sb rb m] = some (.bool true) := by
  unfold sp85 mcA
  simp only [h1, h2, h3, h4, h5, h6, and_self, if_true]
 have v1 : viewV h (mcA sa ra m) = some (mcA sa ra m) := by
  have : (mcA sa ra m).pur = true := by simp [mcA, AV.pur, AV.purL, sl_pur h1, sl_pur h2]
  unfold mcA at this ⊢
  simp only [viewV, this, if_true]
 have v2 : viewV h (mcA sb rb m) = some (mcA sb rb m) := by
  have : (mcA sb rb m).pur = true := by simp [mcA, AV.pur, AV.purL, sl_pur h3, sl_pur h4]
  unfold mcA at this ⊢
  simp only [viewV, this, if_true]
 exact Cl.intr hX (by simp only [flatFn, viewVs, v1, v2, e])
end Go.AM
namespace Go.AM
open Go Go.Proofs
variable [Keep]
attribute [local irreducible] W WO WO1 WD WQ WT thenQ blockQ endR isRet retK Cl ClR
theorem BltN.other {n : Nat} {h h' : Heap} {v w : AV} {s1 s2 : Nat} {l m : List AV} (b : BltN n h v s1 l) (bw : Blt h w s2 m) (hne : s1 ≠ s2) (k : Keeps h h' w) : BltN n h' v s1 l := by
 rcases b with q | ⟨j, q1, q2, q0, q3, q4⟩
 ·exact .inl q
 ·refine .inr ⟨j, q1, ?_, q0, Nat.lt_of_lt_of_le q3 k.1, q4⟩
  rw [k.2 j q3 fun o n e => ?_]
  ·exact q2
  ·rcases bw with ⟨s, _⟩ | ⟨i, r1, r2, _, _⟩
   ·rw [s] at e; cases e
   ·rw [r1] at e
    cases e
    rw [q2] at r2
    have r2 := Option.some.inj r2
    cases r2
    exact hne rfl
theorem frz_two {n : Nat} {hp : Heap} {u v : AV} {s1 s2 : Nat} {l m : List AV} (bu : BltN n hp u s1 l) (bv : BltN n hp v s2 m) (hne : s1 ≠ s2) : ∃ h1 h2, frz1 hp u = some (slN l, h1) ∧ frz1 h1 v = some (slN m, h2) ∧ hp.next ≤ h2.next ∧ ∀ id, id < n → h2.get id = hp.get id := by
 obtain ⟨h1, e1, e2, e3⟩ := bu.blt.frz1
 have bv' : BltN n h1 v s2 m := bv.other bu.blt (Ne.symm hne) ⟨by omega, fun id _ k => e3 id k⟩
 obtain ⟨h2, f1, f2, f3⟩ := bv'.blt.frz1
 refine ⟨h1, h2, e1, f1, by omega, fun id hid => ?_⟩
 rw [f3 id (fun o k ev => ?_), e3 id (fun o k ev => ?_)]
 ·rcases bu with ⟨rfl, _⟩ | ⟨j, rfl, _, hj, _⟩
  ·cases ev
  ·cases ev; omega
 ·rcases bv' with ⟨rfl, _⟩ | ⟨j, rfl, _, hj, _⟩
  ·cases ev
  ·cases ev; omega
theorem see_blt {α : Type} {c : Cd α} {h : Heap} {v : AV} {sz : Nat} {l : List α} (b : Blt h v sz (l.map c.enc)) (hl : l.length ≤ maxL) : SeeV h c v l :=
 ⟨_, b.view (fun a ha => by
  obtain ⟨x, _, rfl⟩ := List.mem_map.1 ha
  exact c.pur x), slN_sl c l hl⟩
theorem idx2 (x y : Int) (H : Heap) : indexAddrV Tryz.prog H 39 (.vslice [.int .i64 x, .int .i64 y]) (.int .i64 0) = some (.vptr [.int .i64 x]) ∧ indexAddrV Tryz.prog H 39 (.vslice [.int .i64 x, .int .i64 y]) (.int .i64 1) = some (.vptr [.int .i64 y]) :=
 have hs : slV intC (.vslice [.int .i64 x, .int .i64 y]) = some [x, y] := rfl
 ⟨ints_idx hs (k := 0) rfl H, ints_idx hs (k := 1) rfl H⟩
theorem idx4 (x y z u : Int) (H : Heap) : indexAddrV Tryz.prog H 39 (.vslice [.int .i64 x, .int .i64 y, .int .i64 z, .int .i64 u]) (.int .i64 0) = some (.vptr [.int .i64 x]) ∧ indexAddrV Tryz.prog H 39 (.vslice [.int .i64 x, .int .i64 y, .int .i64 z, .int .i64 u]) (.int .i64 1) = some (.vptr [.int .i64 y]) ∧ indexAddrV Tryz.prog H 39 (.vslice [.int .i64 x, .int .i64 y, .int .i64 z, .int .i64 u]) (.int .i64 2) = some (.vptr [.int .i64 z]) ∧ indexAddrV Tryz.prog H 39 (.vslice [.int .i64 x, .int .i64 y, .int .i64 z, .int .i64 u]) (.int .i64 3) = some (.vptr [.int .i64 u]) :=
 have hs : slV intC (.vslice [.int .i64 x, .int .i64 y, .int .i64 z, .int .i64 u]) = some [x, y, z, u] := rfl
 ⟨ints_idx hs (k := 0) rfl H, ints_idx hs (k := 1) rfl H, ints_idx hs (k := 2) rfl H, ints_idx hs (k := 3) rfl H⟩
theorem body_small {ls : List (List UInt8)} {a b : Nat} {m : Mc} (hb : bodyM ls a b = some m) : smallM m = true ∧ m.st.length ≤ a ∧ m.rs.length ≤ b := by
 unfold bodyM at hb
 split at hb
 ·cases hb
 ·rename_i ps hps
  split at hb
  ·cases hb
  ·rename_i c hc
   split at hb
   ·cases hb
   ·rename_i w hw
    split at hb
    ·cases hb
    ·rename_i rs hrs
     cases hb
     have p1 := mapO_all (P := fun l : List Int => l.length = 2 ∧ l.all smallN = true) (fun a b e => nums_is e) hps
     have p2 := mapO_all (P := fun l : List Int => l.length = 4 ∧ l.all smallN = true) (fun a b e => nums_is e) hrs
     have l1 := mapO_len hps
     have l2 := mapO_len hrs
     rw [List.length_take] at l1 l2
     obtain ⟨cl, cs⟩ := nums_is hc
     obtain ⟨wl, wss⟩ := nums_is hw
     refine ⟨?_, ?_, ?_⟩
     ·match c, cl, cs, w, wl, wss with
      | [c0, c1, c2, c3], _, cs, [w0, w1, w2, w3], _, wss =>
       simp only [List.all_cons, List.all_nil, Bool.and_true, Bool.and_eq_true] at cs wss
       unfold smallM mkM
       simp only [Bool.and_eq_true, List.all_eq_true, List.getD_cons_zero, List.getD_cons_succ]
       refine ⟨⟨⟨?_, ⟨⟨cs.1, cs.2.1⟩, cs.2.2.1⟩, cs.2.2.2⟩, ⟨⟨wss.1, wss.2.1⟩, wss.2.2.1⟩, wss.2.2.2⟩, ?_⟩
       ·intro p hp
        obtain ⟨l, hl, rfl⟩ := List.mem_map.1 hp
        obtain ⟨k1, k2⟩ := p1 l hl
        match l, k1, k2 with
        | [x, y], _, k2 => simpa [ptOf] using k2
       ·intro p hp
        obtain ⟨l, hl, rfl⟩ := List.mem_map.1 hp
        obtain ⟨k1, k2⟩ := p2 l hl
        match l, k1, k2 with
        | [x, y, z, u], _, k2 =>
         simp only [List.all_cons, List.all_nil, Bool.and_true, Bool.and_eq_true] at k2
         exact ⟨⟨⟨k2.1, k2.2.1⟩, k2.2.2.1⟩, k2.2.2.2⟩
     ·simp only [mkM, List.length_map, l1]; omega
     ·simp only [mkM, List.length_map, l2]; omega
theorem read_head {s : List UInt8} (h : numsW ((spL 10 s).getD 0 []) wMach 2 = none) : readM s = none := by
 unfold readM; rw [h]
theorem read_nok {s : List UInt8} {hd : List Int} (h : numsW ((spL 10 s).getD 0 []) wMach 2 = some hd) (k : hdOk (spL 10 s) hd = false) : readM s = none := by
 unfold readM; rw [h]; simp only [k, Bool.false_eq_true, if_false]
theorem read_ok {s : List UInt8} {hd : List Int} (h : numsW ((spL 10 s).getD 0 []) wMach 2 = some hd) (k : hdOk (spL 10 s) hd = true) : readM s = match bodyM (spL 10 s) (hd.getD 0 0).toNat (hd.getD 1 0).toNat with | none => none | some m => if textM m = s then some m else none := by
 unfold readM; rw [h]; simp only [k, if_true]
 cases bodyM (spL 10 s) (hd.getD 0 0).toNat (hd.getD 1 0).toNat with
 | none => rfl
 | some m => by_cases q : textM m = s <;> simp [q]
def bodyL (S : List (List UInt8)) (cL wL : List UInt8) (R : List (List UInt8)) : Option Mc :=
 match mapO (fun l => numsW l wStop 2) S with
 | none => none
 | some ps => match numsW cL wChuck 4 with
  | none => none
  | some c => match numsW wL wWear 4 with
   | none => none
   | some w => match mapO (fun l => numsW l wRead 4) R with
    | none => none
    | some rs => some (mkM ps c w rs)
theorem bodyL_1 {S R : List (List UInt8)} {cL wL : List UInt8} (h : mapO (fun l => numsW l wStop 2) S = none) : bodyL S cL wL R = none := by unfold bodyL; rw [h]
theorem bodyL_2 {S R : List (List UInt8)} {cL wL : List UInt8} {ps : List (List Int)} (h : mapO (fun l => numsW l wStop 2) S = some ps) (h2 : numsW cL wChuck 4 = none) : bodyL S cL wL R = none := by unfold bodyL; rw [h, h2]
theorem bodyL_3 {S R : List (List UInt8)} {cL wL : List UInt8} {ps : List (List Int)} {c : List Int} (h : mapO (fun l => numsW l wStop 2) S = some ps) (h2 : numsW cL wChuck 4 = some c) (h3 : numsW wL wWear 4 = none) : bodyL S cL wL R = none := by unfold bodyL; rw [h, h2, h3]
theorem bodyL_4 {S R : List (List UInt8)} {cL wL : List UInt8} {ps : List (List Int)} {c w : List Int} (h : mapO (fun l => numsW l wStop 2) S = some ps) (h2 : numsW cL wChuck 4 = some c) (h3 : numsW wL wWear 4 = some w) (h4 : mapO (fun l => numsW l wRead 4) R = none) : bodyL S cL wL R = none := by unfold bodyL; rw [h, h2, h3, h4]
theorem bodyL_5 {S R : List (List UInt8)} {cL wL : List UInt8} {ps rs : List (List Int)} {c w : List Int} (h : mapO (fun l => numsW l wStop 2) S = some ps) (h2 : numsW cL wChuck 4 = some c) (h3 : numsW wL wWear 4 = some w) (h4 : mapO (fun l => numsW l wRead 4) R = some rs) : bodyL S cL wL R = some (mkM ps c w rs) := by unfold bodyL; rw [h, h2, h3, h4]
theorem bodyL_small {S R : List (List UInt8)} {cL wL : List UInt8} {m : Mc} (hb : bodyL S cL wL R = some m) : smallM m = true := by
 have h1 : (S ++ (cL :: wL :: R)).drop 0 = S ++ (cL :: wL :: R) := rfl
 have h2 : bodyM ([] :: (S ++ (cL :: wL :: R))) S.length R.length = bodyL S cL wL R := by
  have e1 : (([] : List UInt8) :: (S ++ (cL :: wL :: R))).drop 1 = S ++ (cL :: wL :: R) := rfl
  have e2 : (S ++ (cL :: wL :: R)).take S.length = S := by simp
  have e3 : (([] : List UInt8) :: (S ++ (cL :: wL :: R))).getD (1 + S.length) [] = cL := by
   rw [Nat.add_comm, List.getD_cons_succ, List.getD_eq_getElem?_getD, List.getElem?_append_right (Nat.le_refl _), Nat.sub_self]
   rfl
  have e4 : (([] : List UInt8) :: (S ++ (cL :: wL :: R))).getD (2 + S.length) [] = wL := by
   rw [show 2 + S.length = (1 + S.length) + 1 by omega, List.getD_cons_succ, List.getD_eq_getElem?_getD, List.getElem?_append_right (by omega), show 1 + S.length - S.length = 1 by omega]
   rfl
  have e5 : ((([] : List UInt8) :: (S ++ (cL :: wL :: R))).drop (3 + S.length)).take R.length = R := by
   rw [show 3 + S.length = (2 + S.length) + 1 by omega, List.drop_succ_cons, List.drop_append, List.drop_of_length_le (by omega), show 2 + S.length - S.length = 2 by omega]
   simp
  unfold bodyM bodyL
  rw [e1, e2, e3, e4, e5]
  try rfl
 rw [← h2] at hb
 exact (body_small hb).1
theorem body_parts {ls : List (List UInt8)} {a b : Nat} (h : ls.length = a + b + 5) : ∃ cL wL T2, (ls.drop 1).drop a = cL :: wL :: T2 ∧ bodyM ls a b = bodyL ((ls.drop 1).take a) cL wL (((cL :: wL :: T2).take (b + 2)).drop 2) ∧ ((cL :: wL :: T2).take (b + 2)).drop 2 = T2.take b ∧ b ≤ T2.length := by
 have hT : ((ls.drop 1).drop a).length = b + 4 := by simp only [List.length_drop]; omega
 match hq : (ls.drop 1).drop a with
 | [] => rw [hq] at hT; simp at hT
 | [_] => rw [hq] at hT; simp at hT
 | cL :: wL :: T2 =>
  have hd : ls.drop (1 + a) = cL :: wL :: T2 := by rw [← List.drop_drop]; exact hq
  have e1 : ls.getD (1 + a) [] = cL := by
   have : (ls.drop (1 + a))[0]? = some cL := by rw [hd]; rfl
   rw [List.getElem?_drop, Nat.add_zero] at this
   rw [List.getD_eq_getElem?_getD, this]; rfl
  have e2 : ls.getD (2 + a) [] = wL := by
   have : (ls.drop (1 + a))[1]? = some wL := by rw [hd]; rfl
   rw [List.getElem?_drop, show 1 + a + 1 = 2 + a by omega] at this
   rw [List.getD_eq_getElem?_getD, this]; rfl
  have e3 : ls.drop (3 + a) = T2 := by
   rw [show 3 + a = (1 + a) + 2 by omega, ← List.drop_drop, hd]; rfl
  have e4 : ((cL :: wL :: T2).take (b + 2)).drop 2 = T2.take b := by simp
  refine ⟨cL, wL, T2, rfl, ?_, e4, ?_⟩
  ·unfold bodyM bodyL
   rw [e1, e2, e3, e4]
   try rfl
  ·rw [hq] at hT; simp at hT; omega
def readR (s : List UInt8) (h : Heap) (r : COut) : Prop := ∃ h', HExt h h' ∧ match readM s with | some m => r = .ret (mcV m) h' none | none => ∃ u, r = .pan (.iface 205 (.agg [.str u])) h' none
theorem readR_fail {s : List UInt8} {h : Heap} : ¬ readR s h .fail := by
 rintro ⟨h', _, e⟩
 split at e
 ·cases e
 ·obtain ⟨u, e⟩ := e
  cases e
theorem readR_pan {s u : List UInt8} {h h' : Heap} (x : HExt h h') (e : readM s = none) : readR s h (.pan (.iface 205 (.agg [.str u])) h' none) := ⟨h', x, by rw [e]; exact ⟨u, rfl⟩⟩
theorem readR_ret {s : List UInt8} {h h' : Heap} {m : Mc} (x : HExt h h') (e : readM s = some m) : readR s h (.ret (mcV m) h' none) := ⟨h', x, by rw [e]⟩
theorem K140r {X : Ctx} (hX : X.intr 140 = some (flatFnD sp140)) {u v : AV} {b : Nat} {m : Mc} {h : Heap} (hu : BltN b h u 2 (m.st.map ptC.enc)) (hv : BltN b h v 4 (m.rs.map rdgC.enc)) (hok : okM m = true) :
  Cl X 140 [.agg [u, .int .i64 m.cx.lo, .int .i64 m.cx.hi, .int .i64 m.cy.lo, .int .i64 m.cy.hi, .int .i64 m.wx.lo, .int .i64 m.wx.hi, .int .i64 m.wy.lo, .int .i64 m.wy.hi, v]] h (.ret (.str (textM m)) h none) := by
 have hk := hok
 unfold okM at hk
 simp only [Bool.and_eq_true, decide_eq_true_eq] at hk
 exact K140 hX (see_blt hu.blt (by unfold maxL; omega)) (see_blt hv.blt (by unfold maxL; omega)) hok
end Go.AM
