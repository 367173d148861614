/-
    MouldCoulds and MouldConfuseds return true for every input, and leave their inputs as they were. No condition but the row's own: the tables of Go's library that it lists hold what the program's text lays there.
-/
import Derived.Test.YtgihdicidaipmaaGreatDoorTAV
import Derived.Test.YtgihdicidaipmaaGreatDoorTXGVG
import Derived.Test.YtgihdicidaipmaaGreatDoorTBG
import Derived.Test.YtgihdicidaipmaaGreatDoorCards
set_option linter.unusedSimpArgs false
set_option linter.unusedVariables false
set_option linter.unusedSectionVars false
set_option maxRecDepth 100000
namespace Go.Proofs.YtgihdicidaipmaaGreatDoor
open Go Go.AM Go.ChangeShapes Go.WideShapes Go.ChangeAt Go.RowKit
theorem law5[Keep](hT:TabK Tryz.prog)(avs:List AV)(h:ArgsOk Tryz.prog Tryz.f5.params.toList avs):∃X,X.P=Tryz.prog/\Sound X/\∃h',Cl X 5 avs emptyHp (.ret (.bool true) h' none):=by
 rw[Tryz.params5]at h;rcases h with _|⟨k1,_|⟨k2,_|⟨k3,_|_⟩⟩⟩
 obtain⟨sa,b,rfl,v⟩:=Sh.book k1;obtain⟨A,D,rfl⟩:=Sh.find k2;obtain⟨m,rfl⟩:=Sh.i64 k3;rw[ag24,ag42,ag3];exact⟨dX c5,rfl,c5_sound,(T5 sa b A D m v).gives⟩
theorem mouldCoulds_lifted(os:Os)(started:os.Started)(H:Type)(enc:TypeId×Value->H) :
  ReturnsInHanded {} Tryz.checked os 5 .any (fun w args=>(Rows.mouldCouldsSpec.pre enc Tryz.prog Tryz.f5 Rows.mouldCouldsRow.domain false w args/\laidMetH Tryz.prog laidL5 w)/\sizedMet enc Tryz.prog Tryz.f5 (OpenSpec.ofChange Rows.mouldCouldsSpec) false w args)
   (Rows.mouldCouldsSpec.post enc Tryz.prog Tryz.f5 false true false false):=by
 refine returnsInHanded_of_change_and (C:=Tryz.checked) (X:=fun w _=>laidMetH Tryz.prog laidL5 w) (fun _ _ _ hh h=>h.of_heap hh) own started (by kernel_rfl) Tryz.func5
  (ChangeSpec.witness_shaped (enc:=enc) (C:=Tryz.checked) (os:=os) (X:=fun w _=>laidMetH Tryz.prog laidL5 w) false (World.laidAll Tryz.prog os laidL5) #[.agg #[.int .i64 0,.int .i64 0,.slice none 0 0],.agg #[.int .i64 0,.int .i64 0],.int .i64 0] 8 (World.laidAll_os _ _ _)
   (World.shaped_of_ZipB (by kernel_rfl) (by kernel_rfl)) (by kernel_rfl) (by kernel_rfl) (by kernel_rfl)
   (by rw[MakeChecks.laidMetH_plain _ _ _ (by kernel_rfl)];exact laidMet_laidAll _ (by kernel_rfl) (by kernel_rfl))) ?_
 intro W base args ds gs before hval hW _ _ hL _;exact lawHolds Tryz.func5 (by kernel_rfl) rfl (fun ds hd=>by
  match ds,hd with
  | [d1,d2,d3],_=>rfl) (by rw[Tryz.params5];intro t ht;simp at ht;rcases ht with rfl|rfl|rfl<;>kernel_rfl) (by rw[Tryz.params5];intro t ht;simp at ht;rcases ht with rfl|rfl|rfl<;>exact⟨by kernel_rfl,of_decide_eq_true (by kernel_rfl)⟩)
  (fun hT avs h=>law5 hT avs h) W base args ds gs before hval hW (laidSub hL)
theorem in5:(Rows.mouldCouldsRow.inPlace==Tryz.prog.inPlace 5)=true:=by kernel_rfl
theorem unf5:(Rows.mouldCouldsRow.unfollowed==Tryz.prog.unfollowed 5)=true:=by kernel_rfl
theorem rec5:(Rows.mouldCouldsRow.recurses==Tryz.prog.recurses 5)=true:=by kernel_rfl
theorem nam5:(Rows.mouldCouldsRow.named==Tryz.prog.varsNamed 5)=true:=by kernel_rfl
theorem closed5:joinedFacts Tryz.prog 5 Tryz.f5 Rows.mouldCouldsSpec Rows.mouldCouldsRow=true:=by
 unfold joinedFacts;rw[enter_ok,lifts_ok,make_ok];repeat' (with_reducible apply and_mk)
 all_goals (first|with_reducible exact laidOut|with_reducible exact rowed|with_reducible exact in5|with_reducible exact unf5|with_reducible exact rec5|with_reducible exact nam5|kernel_rfl)
theorem mouldCoulds_holds:Rows.MouldCouldsSaid:=
 OpenClaim.holds_of_wide 5 Tryz.f5 rfl rfl rfl rfl rfl rfl rfl ⟨rfl,rfl,rfl,rfl,rfl⟩ rfl rfl rfl rfl rfl (by kernel_rfl) Tryz.func5 closed5
  (of_decide_eq_true (by kernel_rfl)) (by unfold Func.isWrapper;rw[if_neg (of_decide_eq_false (by kernel_rfl))];exact⟨rfl,rfl⟩)
  (fun os started H enc _=>mouldCoulds_lifted os started H enc)
theorem goes5:false=Rows.mouldCouldsRow.goesBy Tryz.prog:=by kernel_rfl
theorem mouldCoulds_card:Rows.MouldCouldsCardSaid:=
 Claim7.holds_tied_plain_at .later [] [.data,.data,.data,.data,.pinned] true (true,"9f6af659d51eecd5ef0b7864e638dd6f75901458c8e0d6a7a601de42b21bca61") true mouldCoulds_holds (fun _ h=>by cases h) (by kernel_rfl) (fun _ h=>by cases h) mouldCoulds_row_tie rfl ⟨rfl,rfl⟩ main_ok rfl
  (fun f fn hf hfn=>by
   obtain rfl:f=5:=Option.some.inj ((show Tryz.prog.funcNamed "nacre/nacrelaw07.MouldCoulds" =some 5 by kernel_rfl).symm.trans hf) |>.symm
   obtain rfl:fn=Tryz.f5:=(Option.some.inj (Tryz.func5.symm.trans hfn)).symm;exact⟨looks_ok,fun j t ht=>by
    rw[Tryz.params5]at ht;have hm:t∈[24,42,3]:=by simpa using Array.mem_of_getElem? ht
    have hall:([24,42,3].all fun u=>!Tryz.prog.wantsStandIn u)=true:=by kernel_rfl
    exact(show Tryz.prog.wantsStandIn t=false by simpa using List.all_eq_true.1 hall t hm)⟩)
  goes5
theorem law8[Keep](hT:TabK Tryz.prog)(avs:List AV)(h:ArgsOk Tryz.prog Tryz.f8.params.toList avs):∃X,X.P=Tryz.prog/\Sound X/\∃h',Cl X 8 avs emptyHp (.ret (.bool true) h' none):=by
 rw[Tryz.params8]at h;rcases h with _|⟨k1,_|⟨k2,_|⟨k3,_|⟨k4,_|_⟩⟩⟩⟩
 obtain⟨sa,b,rfl,v⟩:=Sh.book k1;obtain⟨one,rfl⟩:=Sh.i64 k2;obtain⟨oth,rfl⟩:=Sh.i64 k3;obtain⟨st,rfl⟩:=Sh.i64 k4;rw[ag24,ag3];exact⟨dX c8,rfl,c8_sound,(T8 sa b one oth st v).gives⟩
theorem mouldConfuseds_lifted(os:Os)(started:os.Started)(H:Type)(enc:TypeId×Value->H) :
  ReturnsInHanded {} Tryz.checked os 8 .any (fun w args=>(Rows.mouldConfusedsSpec.pre enc Tryz.prog Tryz.f8 Rows.mouldConfusedsRow.domain false w args/\laidMetH Tryz.prog laidL5 w)/\sizedMet enc Tryz.prog Tryz.f8 (OpenSpec.ofChange Rows.mouldConfusedsSpec) false w args)
   (Rows.mouldConfusedsSpec.post enc Tryz.prog Tryz.f8 false true false false):=by
 refine returnsInHanded_of_change_and (C:=Tryz.checked) (X:=fun w _=>laidMetH Tryz.prog laidL5 w) (fun _ _ _ hh h=>h.of_heap hh) own started (by kernel_rfl) Tryz.func8
  (ChangeSpec.witness_shaped (enc:=enc) (C:=Tryz.checked) (os:=os) (X:=fun w _=>laidMetH Tryz.prog laidL5 w) false (World.laidAll Tryz.prog os laidL5) #[.agg #[.int .i64 0,.int .i64 0,.slice none 0 0],.int .i64 0,.int .i64 0,.int .i64 0] 8 (World.laidAll_os _ _ _)
   (World.shaped_of_ZipB (by kernel_rfl) (by kernel_rfl)) (by kernel_rfl) (by kernel_rfl) (by kernel_rfl)
   (by rw[MakeChecks.laidMetH_plain _ _ _ (by kernel_rfl)];exact laidMet_laidAll _ (by kernel_rfl) (by kernel_rfl))) ?_
 intro W base args ds gs before hval hW _ _ hL _;exact lawHolds Tryz.func8 (by kernel_rfl) rfl (fun ds hd=>by
  match ds,hd with
  | [d1,d2,d3,d4],_=>rfl) (by rw[Tryz.params8];intro t ht;simp at ht;rcases ht with rfl|rfl|rfl|rfl<;>kernel_rfl) (by rw[Tryz.params8];intro t ht;simp at ht;rcases ht with rfl|rfl|rfl|rfl<;>exact⟨by kernel_rfl,of_decide_eq_true (by kernel_rfl)⟩)
  (fun hT avs h=>law8 hT avs h) W base args ds gs before hval hW (laidSub hL)
theorem in8:(Rows.mouldConfusedsRow.inPlace==Tryz.prog.inPlace 8)=true:=by kernel_rfl
theorem unf8:(Rows.mouldConfusedsRow.unfollowed==Tryz.prog.unfollowed 8)=true:=by kernel_rfl
theorem rec8:(Rows.mouldConfusedsRow.recurses==Tryz.prog.recurses 8)=true:=by kernel_rfl
theorem nam8:(Rows.mouldConfusedsRow.named==Tryz.prog.varsNamed 8)=true:=by kernel_rfl
theorem closed8:joinedFacts Tryz.prog 8 Tryz.f8 Rows.mouldConfusedsSpec Rows.mouldConfusedsRow=true:=by
 unfold joinedFacts;rw[enter_ok,lifts_ok,make_ok];repeat' (with_reducible apply and_mk)
 all_goals (first|with_reducible exact laidOut|with_reducible exact rowed|with_reducible exact in8|with_reducible exact unf8|with_reducible exact rec8|with_reducible exact nam8|kernel_rfl)
theorem mouldConfuseds_holds:Rows.MouldConfusedsSaid:=
 OpenClaim.holds_of_wide 8 Tryz.f8 rfl rfl rfl rfl rfl rfl rfl ⟨rfl,rfl,rfl,rfl,rfl⟩ rfl rfl rfl rfl rfl (by kernel_rfl) Tryz.func8 closed8
  (of_decide_eq_true (by kernel_rfl)) (by unfold Func.isWrapper;rw[if_neg (of_decide_eq_false (by kernel_rfl))];exact⟨rfl,rfl⟩)
  (fun os started H enc _=>mouldConfuseds_lifted os started H enc)
theorem goes8:false=Rows.mouldConfusedsRow.goesBy Tryz.prog:=by kernel_rfl
theorem mouldConfuseds_card:Rows.MouldConfusedsCardSaid:=
 Claim7.holds_tied_plain_at .later [] [.data,.data,.data,.data,.pinned] true (true,"9f6af659d51eecd5ef0b7864e638dd6f75901458c8e0d6a7a601de42b21bca61") true mouldConfuseds_holds (fun _ h=>by cases h) (by kernel_rfl) (fun _ h=>by cases h) mouldConfuseds_row_tie rfl ⟨rfl,rfl⟩ main_ok rfl
  (fun f fn hf hfn=>by
   obtain rfl:f=8:=Option.some.inj ((show Tryz.prog.funcNamed "nacre/nacrelaw07.MouldConfuseds" =some 8 by kernel_rfl).symm.trans hf) |>.symm
   obtain rfl:fn=Tryz.f8:=(Option.some.inj (Tryz.func8.symm.trans hfn)).symm;exact⟨looks_ok,fun j t ht=>by
    rw[Tryz.params8]at ht;have hm:t∈[24,3,3,3]:=by simpa using Array.mem_of_getElem? ht
    have hall:([24,3,3,3].all fun u=>!Tryz.prog.wantsStandIn u)=true:=by kernel_rfl
    exact(show Tryz.prog.wantsStandIn t=false by simpa using List.all_eq_true.1 hall t hm)⟩)
  goes8
end Go.Proofs.YtgihdicidaipmaaGreatDoor
